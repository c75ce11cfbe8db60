/- Layer 21: the document's New, Peek, and Put of a new client. -/
import Derived.Test.YtkogagpahidenaaDrrU
namespace Go.Proofs.Ytkogagpahidenaa
open Go.BK Go.BK.DR Go.RowKit Go.Maps
set_option linter.unusedVariables false
section
variable {U : Nat → Prop} {w w' : World} {g c : Nat} {p : Par} {A : Option Addr} {R R1 R2 : List Ln} {r : Ln}
set_option maxHeartbeats 1000000 in
theorem rnext_nil (h : RfR w g p A c []) : Calls Try.prog 21 #[.pointer (some ⟨g, 0, none⟩)] w fun e w' => e = .returned (tellV none) ∧ w = w' := by
  obtain ⟨_, _, _, _, c4, cf⟩ := h.cells
  simp only [List.length_nil] at c4
  clear h
  go_enter Try.func21, Try.ntmps21
  go_wp2_with fail
  go_loopw [] (fun wr => wr = w) (fun _ => 0)
  case atStart => rfl
  case round =>
    subst hrel
    go_wp2_with fail
    refine bodyPost_ret (by simp [results, Try.results21, go_sem]; rfl) rfl ?_
    exact ⟨rfl, rfl⟩
set_option maxHeartbeats 1000000 in
set_option maxRecDepth 100000 in
theorem rpeek_any (h : RfR w g p A c R) (hp : p.ok) (hs : (stN R).ok p) (hk : okN R) (hlen : R.length ≤ 1024) :
    Calls Try.prog 23 #[.pointer (some ⟨g, 0, none⟩)] w fun e w' => e = .returned (tellV (peekS p (stN R))) ∧ Ext w w' := by
  have xa := ext_alloc w (.cells #[.int .i64 p.clients, .int .i64 p.items, .int .i64 p.quantum, .int .i64 p.most, .slice A R.length c] 72)
  have h2 : RfR (w.alloc (.cells #[.int .i64 p.clients, .int .i64 p.items, .int .i64 p.quantum, .int .i64 p.most, .slice A R.length c] 72)) w.heap.size p A c R :=
    ⟨Blk.new w _ _, h.ring.ext xa, fun r hr => OwnO.shy (U := fun _ => False) (Shy.of_ext xa) (h.its r hr) fun _ _ e => e, fun hne e => by
      obtain ⟨b, hb1, hb2⟩ := h.ring.lt (List.length_pos_iff.2 hne)
      rw [e] at hb1
      injection hb1 with hb1
      omega⟩
  have C : Calls Try.prog 21 #[.pointer (some ⟨w.heap.size, 0, none⟩)] (w.alloc (.cells #[.int .i64 p.clients, .int .i64 p.items, .int .i64 p.quantum, .int .i64 p.most, .slice A R.length c] 72)) fun e w' => e = .returned (tellV (peekS p (stN R))) ∧ Ext w w' := by
    by_cases hne : R = []
    · subst hne
      refine (rnext_nil h2).mono ?_
      rintro e w' ⟨rfl, rfl⟩
      exact ⟨rfl, xa⟩
    · refine (rnext_any h2 hp hs hk hne hlen).mono ?_
      rintro e w' ⟨rfl, _, _, _, _, _, _, _, _, hsh⟩
      refine ⟨rfl, Below.trans xa (hsh.below (by simp) fun k hk e => ?_)⟩
      omega
  obtain ⟨c0, c1, c2, c3, c4, cf⟩ := h.cells
  obtain ⟨tv, htv⟩ : ∃ tv, peekS p (stN R) = tv := ⟨_, rfl⟩
  rw [htv] at C ⊢
  have C := hid C
  clear h h2 hs hk htv xa
  cases tv with
  | none =>
    simp only [tellV]
    go_enter Try.func23, Try.ntmps23
    go_wp2_with fail
    refine C.out.mono ?_
    rintro e w2 ⟨rfl, hx⟩
    have HX := hid hx
    clear hx
    simp only [tellV]
    go_wp2_with fail
    refine bodyPost_ret (by simp [results, Try.results23, go_sem]; rfl) rfl ?_
    exact ⟨rfl, HX.out⟩
  | some v =>
    simp only [tellV]
    go_enter Try.func23, Try.ntmps23
    go_wp2_with fail
    refine C.out.mono ?_
    rintro e w2 ⟨rfl, hx⟩
    have HX := hid hx
    clear hx
    simp only [tellV]
    go_wp2_with fail
    refine bodyPost_ret (by simp [results, Try.results23, go_sem]; rfl) rfl ?_
    exact ⟨rfl, HX.out⟩
set_option maxHeartbeats 1000000 in
set_option maxRecDepth 100000 in
theorem rnew_no (a b c d : Int) (w : World) (h : ¬ Par.ok ⟨a, b, c, d⟩) :
    Calls Try.prog 20 #[.int .i64 a, .int .i64 b, .int .i64 c, .int .i64 d] w fun e w' => e = .returned (.tuple #[.pointer none, .int .i64 2]) ∧ w = w' := by
  have C1 := within_any a 1024 w
  have C2 := within_any b 64 w
  have C3 := within_any c 4096 w
  have C4 := within_any d c w
  have hh : ¬ (1 ≤ a ∧ a ≤ 1024) ∨ (1 ≤ a ∧ a ≤ 1024) ∧ (¬ (1 ≤ b ∧ b ≤ 64) ∨ (1 ≤ b ∧ b ≤ 64) ∧ (¬ (1 ≤ c ∧ c ≤ 4096) ∨ (1 ≤ c ∧ c ≤ 4096) ∧ ¬ (1 ≤ d ∧ d ≤ c))) := by
    unfold Par.ok at h; simp only at h; omega
  clear h
  obtain ⟨b1, e1⟩ : ∃ x, decide (1 ≤ a ∧ a ≤ 1024) = x := ⟨_, rfl⟩
  obtain ⟨b2, e2⟩ : ∃ x, decide (1 ≤ b ∧ b ≤ 64) = x := ⟨_, rfl⟩
  obtain ⟨b3, e3⟩ : ∃ x, decide (1 ≤ c ∧ c ≤ 4096) = x := ⟨_, rfl⟩
  obtain ⟨b4, e4⟩ : ∃ x, decide (1 ≤ d ∧ d ≤ c) = x := ⟨_, rfl⟩
  have hb : b1 = false ∨ b1 = true ∧ (b2 = false ∨ b2 = true ∧ (b3 = false ∨ b3 = true ∧ b4 = false)) := by
    rw [← e1, ← e2, ← e3, ← e4]
    simp only [decide_eq_false_iff_not, decide_eq_true_eq]
    exact hh
  rw [e1] at C1
  rw [e2] at C2
  rw [e3] at C3
  rw [e4] at C4
  have C1 := hid C1
  have C2 := hid C2
  have C3 := hid C3
  have C4 := hid C4
  clear hh e1 e2 e3 e4
  rcases hb with rfl | ⟨rfl, rfl | ⟨rfl, rfl | ⟨rfl, rfl⟩⟩⟩
  · go_enter Try.func20, Try.ntmps20
    go_wp2_with fail
    refine C1.out.mono ?_
    rintro e _ ⟨rfl, rfl⟩
    go_wp2
    go_ret2
    exact ⟨rfl, rfl⟩
  · go_enter Try.func20, Try.ntmps20
    go_wp2_with fail
    refine C1.out.mono ?_
    rintro e _ ⟨rfl, rfl⟩
    go_wp2_with fail
    refine C2.out.mono ?_
    rintro e _ ⟨rfl, rfl⟩
    go_wp2
    go_ret2
    exact ⟨rfl, rfl⟩
  · go_enter Try.func20, Try.ntmps20
    go_wp2_with fail
    refine C1.out.mono ?_
    rintro e _ ⟨rfl, rfl⟩
    go_wp2_with fail
    refine C2.out.mono ?_
    rintro e _ ⟨rfl, rfl⟩
    go_wp2_with fail
    refine C3.out.mono ?_
    rintro e _ ⟨rfl, rfl⟩
    go_wp2
    go_ret2
    exact ⟨rfl, rfl⟩
  · go_enter Try.func20, Try.ntmps20
    go_wp2_with fail
    refine C1.out.mono ?_
    rintro e _ ⟨rfl, rfl⟩
    go_wp2_with fail
    refine C2.out.mono ?_
    rintro e _ ⟨rfl, rfl⟩
    go_wp2_with fail
    refine C3.out.mono ?_
    rintro e _ ⟨rfl, rfl⟩
    go_wp2_with fail
    refine C4.out.mono ?_
    rintro e _ ⟨rfl, rfl⟩
    go_wp2
    go_ret2
    exact ⟨rfl, rfl⟩
set_option maxHeartbeats 1000000 in
set_option maxRecDepth 100000 in
theorem rnew_ok (p : Par) (w : World) (h : p.ok) :
    Calls Try.prog 20 #[.int .i64 p.clients, .int .i64 p.items, .int .i64 p.quantum, .int .i64 p.most] w fun e w' => e = .returned (.tuple #[.pointer (some ⟨w.heap.size, 0, none⟩), .int .i64 0]) ∧ RfR w' w.heap.size p none 0 [] ∧ Ext w w' := by
  have C1 := within_any p.clients 1024 w
  have C2 := within_any p.items 64 w
  have C3 := within_any p.quantum 4096 w
  have C4 := within_any p.most p.quantum w
  unfold Par.ok at h
  rw [decide_eq_true (show 1 ≤ p.clients ∧ p.clients ≤ 1024 by omega)] at C1
  rw [decide_eq_true (show 1 ≤ p.items ∧ p.items ≤ 64 by omega)] at C2
  rw [decide_eq_true (show 1 ≤ p.quantum ∧ p.quantum ≤ 4096 by omega)] at C3
  rw [decide_eq_true (show 1 ≤ p.most ∧ p.most ≤ p.quantum by omega)] at C4
  have C1 := hid C1
  have C2 := hid C2
  have C3 := hid C3
  have C4 := hid C4
  clear h
  go_enter Try.func20, Try.ntmps20
  go_wp2_with fail
  refine C1.out.mono ?_
  rintro e _ ⟨rfl, rfl⟩
  go_wp2_with fail
  refine C2.out.mono ?_
  rintro e _ ⟨rfl, rfl⟩
  go_wp2_with fail
  refine C3.out.mono ?_
  rintro e _ ⟨rfl, rfl⟩
  go_wp2_with fail
  refine C4.out.mono ?_
  rintro e _ ⟨rfl, rfl⟩
  go_wp2
  go_ret2
  refine ⟨rfl, ⟨?_, RdG.none_ _ _, by simp, by simp⟩, ext_alloc _ _⟩
  have := Blk.new w 72 #[.int .i64 p.clients, .int .i64 p.items, .int .i64 p.quantum, .int .i64 p.most, .slice none 0 0]
  simpa using this
set_option maxHeartbeats 1000000 in
theorem rput_bad (h : RfR w g p A c R) (a cost x : Int) (hc : ¬ (1 ≤ cost ∧ cost ≤ p.most)) : Calls Try.prog 25 #[.pointer (some ⟨g, 0, none⟩), .int .i64 a, .int .i64 cost, .int .i64 x] w fun e w' => e = .returned (.int .i64 5) ∧ w = w' := by
  have C1 := within_any cost p.most w
  rw [decide_eq_false hc] at C1
  have C1 := hid C1
  obtain ⟨_, _, _, c3, _, cf⟩ := h.cells
  clear h hc
  go_enter Try.func25, Try.ntmps25
  go_wp2_with fail
  refine C1.out.mono ?_
  rintro e _ ⟨rfl, rfl⟩
  go_wp2
  go_ret
  exact ⟨rfl, rfl⟩
set_option maxHeartbeats 1000000 in
theorem rput_many (h : RfR w g p A c R) (a cost x : Int) (hno : ∀ r ∈ R, r.cl.n ≠ a) (hc : 1 ≤ cost ∧ cost ≤ p.most) (hl : p.clients ≤ (R.length : Int)) : Calls Try.prog 25 #[.pointer (some ⟨g, 0, none⟩), .int .i64 a, .int .i64 cost, .int .i64 x] w fun e w' => e = .returned (.int .i64 8) ∧ ∃ nq, w' = w.drewN nq := by
  have C1 := within_any cost p.most w
  rw [decide_eq_true hc] at C1
  have C1 := hid C1
  have C2 := hid (rat_no h a hno)
  obtain ⟨c0, _, _, c3, c4, cf⟩ := h.cells
  have hn9 := h.ring.n_le
  clear h hno hc
  go_enter Try.func25, Try.ntmps25
  go_wp2_with fail
  refine C1.out.mono ?_
  rintro e _ ⟨rfl, rfl⟩
  go_wp2_with fail
  refine C2.out.mono ?_
  rintro e _ ⟨rfl, rfl⟩
  go_wp2_with fail
  go_quiet (fail)
  go_wp2
  go_ret
  exact ⟨rfl, _, rfl⟩
set_option maxHeartbeats 1000000 in
theorem rput_full (h : RfR w g p A c (R1 ++ r :: R2)) (hno : ∀ s ∈ R1, s.cl.n ≠ r.cl.n) (cost x : Int) (hc : 1 ≤ cost ∧ cost ≤ p.most) (hl : p.items ≤ (r.cl.L.length : Int)) : Calls Try.prog 25 #[.pointer (some ⟨g, 0, none⟩), .int .i64 r.cl.n, .int .i64 cost, .int .i64 x] w fun e w' => e = .returned (.int .i64 8) ∧ ∃ nq, w' = w.drewN nq := by
  have C1 := within_any cost p.most w
  rw [decide_eq_true hc] at C1
  have C1 := hid C1
  have C2 := rat_yes h hno
  obtain ⟨_, c1, _, c3, c4, cf⟩ := h.cells
  have hn9 := h.ring.n_le
  obtain ⟨b, o, rfl, hb, hcc⟩ := h.spot (by simp; omega)
  obtain ⟨_, _, _, x3⟩ := hcc R1.length (by simp)
  rw [getD_mid] at x3
  have hl9 := (h.its r (by simp)).rd.n_le
  obtain ⟨n, hn⟩ : ∃ n, (R1 ++ r :: R2).length = n := ⟨_, rfl⟩
  obtain ⟨m, hm⟩ : ∃ m, R1.length = m := ⟨_, rfl⟩
  have hmn : m < n := by rw [← hn, ← hm]; simp
  rw [hn] at c4 hn9
  rw [hm] at x3 C2
  have i1 : (m : Int) < (n : Int) := by omega
  have C2 := hid C2
  clear h hno hc hcc hn hm
  go_enter Try.func25, Try.ntmps25
  go_wp2_with fail
  refine C1.out.mono ?_
  rintro e _ ⟨rfl, rfl⟩
  go_wp2_with fail
  refine C2.out.mono ?_
  rintro e _ ⟨rfl, rfl⟩
  go_wp2_with fail
  go_quiet (fail)
  go_wp2
  go_ret
  exact ⟨rfl, _, rfl⟩
/-- What has become of the ring: a client more. -/
def ToP (w w' : World) (g : Nat) (p : Par) (R R' : List Ln) : Prop :=
  ∃ A' c', RfR w' g p A' c' R' ∧ OwnG isOne w' w.heap.size 75 4 A' R'.length c' (cellsN R') ∧ Shy (fun k => k = g) w w'
set_option maxHeartbeats 4000000 in
set_option maxRecDepth 100000 in
theorem rput_first (h : RfR w g p A c R) (a cost x : Int) (hno : ∀ r ∈ R, r.cl.n ≠ a) (hc : 1 ≤ cost ∧ cost ≤ p.most) (hl : (R.length : Int) < p.clients) (hp2 : p.clients ≤ 1024) : Calls Try.prog 25 #[.pointer (some ⟨g, 0, none⟩), .int .i64 a, .int .i64 cost, .int .i64 x] w fun e w' =>
    e = .returned (.int .i64 0) ∧ ∃ ib, w.heap.size ≤ ib ∧ ToP w w' g p R (R ++ [⟨⟨a, 0, [(cost, x)]⟩, false, some ⟨ib, 0, none⟩, 1⟩]) := by
  have C1 := within_any cost p.most w
  rw [decide_eq_true hc] at C1
  have C1 := hid C1
  have C2 := hid (rat_no h a hno)
  obtain ⟨c0, _, _, c3, c4, cf⟩ := h.cells
  have hn9 := h.ring.n_le
  have H := hid h
  obtain ⟨i0, hi, hz0, hz1, hz2⟩ := info_parts info_line
  obtain ⟨n, hn⟩ : ∃ n, R.length = n := ⟨_, rfl⟩
  rw [hn] at c4 hn9 hl
  have HN := hid hn
  clear h hno hc hn
  go_enter Try.func25, Try.ntmps25
  go_wp2_with fail
  refine C1.out.mono ?_
  rintro e _ ⟨rfl, rfl⟩
  go_wp2_with fail
  refine C2.out.mono ?_
  rintro e _ ⟨rfl, rfl⟩
  go_wp2_with fail
  go_quiet (fail)
  generalize hw1 : World.drewN w _ = w1
  have x1 : Ext w w1 := by rw [← hw1]; exact ext_drewN _ _
  have hz1w : w1.heap.size = w.heap.size := by rw [← hw1]; rfl
  have xe := ext_alloc w1 (.cells #[] 75)
  have hdst : OwnG isOne (w1.alloc (.cells #[] 75)) w.heap.size 75 4 (some ⟨w1.heap.size, 0, none⟩) 0 0 [] := own_none w1 _ _ _ (by omega)
  have hsrc := H.out.ring.ext (ext_trans x1 xe)
  obtain ⟨_, _, _, _, d4, df⟩ := ((H.out.ext x1).ext xe).cells
  rw [HN.out] at d4 hsrc
  have HW1 := hid hw1
  have X1 := hid x1
  have HZ := hid hz1w
  have hle1 : w.heap.size ≤ w1.heap.size := X1.out.size
  clear hw1 x1 c0 c3 c4 cf hz1w
  go_wp2_with (at_builtin; first | ((with_reducible show wpList _ _ _ (⟨some 38, _, _, _, _, _⟩ :: _) _ _); go_must (refine wpList_append_g (ok := isOne) rfl (.tmp 33) (.tmp 37) 70 rfl w.heap.size 75 i0 (.agg #[.int .i64 0, .int .i64 0, .bool false, .slice none 0 0]) 4 48 Try.underlying70 hi hz0 hz1 hz2 rfl (by decide) (by intro u hu; simp [Value.cells] at hu; rcases hu with rfl | rfl | rfl | rfl <;> exact rfl) (fun _ h => h) rfl hdst rfl hsrc (cellsN_one _) (by omega) (by unfold maxLen; omega) (by simp; omega) ?_; intro A6 c6 w6 o6 g6 n6; (simp only [Nat.zero_add, List.nil_append] at o6); have X6 : Hid (Ext w1 w6) := hid (below_of_grown xe (by simp) g6 (fun g hg => (by simp at hg; omega))); have O6 := hid o6; have N6 : Hid (∀ k, blk A6 = some k → w1.heap.size ≤ k) := hid (fun k hk => (by rcases n6 with n6 | n6 <;> (rw [n6] at hk; simp at hk; omega))); have xi := ext_alloc w6 (.cells #[.int .i64 cost, .int .i64 x] 77); have bi := Blk.new w6 77 #[.int .i64 cost, .int .i64 x]; have xl := ext_alloc (w6.alloc (.cells #[.int .i64 cost, .int .i64 x] 77)) (.cells #[.int .i64 a, .int .i64 0, .bool false, .slice (some ⟨w6.heap.size, 0, none⟩) 1 1] 75); have hdst2 := o6.ext (ext_trans xi xl); have hsz2 : (w6.alloc (.cells #[.int .i64 cost, .int .i64 x] 77)).heap.size = w6.heap.size + 1 := (by simp); have hsrc2 := rd_four (w6.alloc (.cells #[.int .i64 cost, .int .i64 x] 77)) (.int .i64 a) (.int .i64 0) (.bool false) (.slice (some ⟨w6.heap.size, 0, none⟩) 1 1) 75; rw [hsz2] at hsrc2; have hw62 : w.heap.size ≤ ((w6.alloc (.cells #[.int .i64 cost, .int .i64 x] 77)).alloc (.cells #[.int .i64 a, .int .i64 0, .bool false, .slice (some ⟨w6.heap.size, 0, none⟩) 1 1] 75)).heap.size := (by have := X6.out.size; have := HZ.out; simp; omega); have XI := hid xi; have XL := hid xl; have BI := hid bi; clear o6 g6 n6 hdst hsrc xe d4 df xi xl bi)) | ((with_reducible show wpList _ _ _ (⟨some 46, _, _, _, _, _⟩ :: _) _ _); go_must (refine wpList_append_g (ok := isOne) rfl (.tmp 38) (.tmp 45) 70 rfl w.heap.size 75 i0 (.agg #[.int .i64 0, .int .i64 0, .bool false, .slice none 0 0]) 4 48 Try.underlying70 hi hz0 hz1 hz2 rfl (by decide) (by intro u hu; simp [Value.cells] at hu; rcases hu with rfl | rfl | rfl | rfl <;> exact rfl) (fun _ h => h) rfl hdst2 rfl hsrc2 (by intro u hu; simp at hu; rcases hu with rfl | rfl | rfl | rfl <;> exact rfl) (by omega) (by unfold maxLen; omega) hw62 ?_; intro A8 c8 w8 o8 g8 n8; have S8 : Hid (Shy (fun j => blk A6 = some j) w6 w8) := hid ((Shy.of_ext (ext_trans XI.out XL.out)).trans (shy_of_grown g8) fun _ _ h => h); have T8 := ((H.out.ext X1.out).ext X6.out).top.shy S8.out (fun e => (by have h1 := N6.out g e; have h2 := (H.out.ext X1.out).top.lt; omega)); have tf8 := T8.frozen; have t84 := T8.cell 4; simp at t84; have HBI : Hid (Blk w8 w6.heap.size 77 #[.int .i64 cost, .int .i64 x]) := hid ((BI.out.ext XL.out).grown g8 (fun e => (by have h1 := (hdst2.lt w6.heap.size e.symm).2; have h2 := own_ne (BI.out.ext XL.out) hdst2 (by decide); exact h2 e.symm))); have O8 := hid o8; clear o8 g8 n8 hdst2 hsrc2 T8)))
  go_ret
  refine ⟨rfl, w6.heap.size, by have := X6.out.size; omega, ?_⟩
  have hitlt : ∀ q ∈ R, ∀ j, blk q.A = some j → j < w1.heap.size := fun q hq j hj => ((H.out.ext X1.out).its q hq).lt j hj
  have h6 := (H.out.ext X1.out).ext X6.out
  obtain ⟨r', hr'⟩ : ∃ r' : Ln, r' = ⟨⟨a, 0, [(cost, x)]⟩, false, some ⟨w6.heap.size, 0, none⟩, 1⟩ := ⟨_, rfl⟩
  have hcell : cellsN R ++ [Value.int .i64 a, .int .i64 0, .bool false, .slice (some ⟨w6.heap.size, 0, none⟩) 1 1] = cellsN (R ++ [r']) := by
    rw [cellsN_append, hr']
    simp [cellsN]
  have o8 := O8.out
  rw [hcell] at o8
  -- the ring without the new one's items: they lie in the new world alone
  have hA6i : blk A6 ≠ some w6.heap.size := fun e => by
    have h1 := O6.out.lt w6.heap.size e
    omega
  have h7 := h6.shy (U := fun _ => False) (Shy.of_ext XI.out) id (fun _ _ => id) fun _ _ _ _ => id
  have s78 : Shy (fun j => blk A6 = some j) (w6.alloc (.cells #[.int .i64 cost, .int .i64 x] 77)) w8 := by
    have h1 := S8.out
    exact ⟨h1.os, h1.tape, h1.output, by have := HBI.out.lt; simp; omega, fun k hk hn => by
      by_cases hke : k = w6.heap.size
      · subst hke
        exact HBI.out.trans BI.out.symm
      · have hk6 : k < w6.heap.size := by simp at hk; omega
        exact (h1.block k hk6 hn).trans (XI.out.block k hk6).symm⟩
  obtain ⟨rf, og⟩ := h7.place s78 (fun e => by have h1 := N6.out g e; have h2 := (H.out.ext X1.out).top.lt; omega) (R' := R ++ [r']) (by simp [HN.out]) o8 (fun q hq => by
    rw [List.mem_append, List.mem_singleton] at hq
    rcases hq with hq | hq
    · exact ⟨h7.its q hq, fun k hk e => by have h1 := N6.out k e; have h2 := hitlt q hq k hk; omega⟩
    · rw [hq, hr']
      refine ⟨.inr ⟨w6.heap.size, 0, [.int .i64 cost, .int .i64 x], rfl, BI.out, by simp, by simp, by simp [maxLen], by simp [cellsI], by intro u hu; simp at hu; rcases hu with rfl | rfl <;> rfl⟩, fun k hk e => ?_⟩
      simp at hk
      subst hk
      exact hA6i e) rfl
  rw [hr'] at rf og
  refine ⟨A8, c8, rf, og, ?_⟩
  have s11 : Shy (fun j => j = g) w (w8.setCell ⟨g, 4, none⟩ (.slice A8 (n + 1) c8)) := (((Shy.of_ext (ext_trans X1.out X6.out)).trans S8.out fun j hj e => (by have h1 := N6.out j e; omega)) : Shy (fun j => j = g) w w8).set (b := g) (fun _ => rfl) 4 _
  exact s11
end
end Go.Proofs.Ytkogagpahidenaa

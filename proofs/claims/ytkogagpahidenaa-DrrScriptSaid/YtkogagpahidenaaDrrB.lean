/- Layer 21: none, of, New, Len, Of, leaves. -/
import Derived.Test.YtkogagpahidenaaDrrA
import Derived.Deep.RegionLaw
import Derived.Outline
namespace Go.Proofs.Ytkogagpahidenaa
open Go.BK Go.BK.DR Go.RowKit Go.Maps
set_option linter.unusedVariables false

section
variable {w : World} {g lb mb : Nat} {p : Par} {R R1 R2 : List Row} {r : Row} {t : Bool} {n : Int}
theorem QR.cells (h : QR w g lb mb p R t n) : w.cell? ⟨g, 0, none⟩ = some (.int .i64 p.clients) ∧ w.cell? ⟨g, 1, none⟩ = some (.int .i64 p.items) ∧ w.cell? ⟨g, 2, none⟩ = some (.int .i64 p.quantum) ∧ w.cell? ⟨g, 3, none⟩ = some (.int .i64 p.most) ∧
    w.cell? ⟨g, 4, none⟩ = some (.pointer (some ⟨lb, 0, none⟩)) ∧ w.cell? ⟨g, 5, none⟩ = some (.map (some mb)) ∧ w.cell? ⟨g, 6, none⟩ = some (.bool t) ∧ w.cell? ⟨g, 7, none⟩ = some (.int .i64 n) ∧ ∀ i, w.frozen? ⟨g, i, none⟩ = false :=
  ⟨h.top.cell 0, h.top.cell 1, h.top.cell 2, h.top.cell 3, h.top.cell 4, h.top.cell 5, h.top.cell 6, h.top.cell 7, h.top.frozen⟩
theorem QR.ccells (h : QR w g lb mb p R t n) (hr : r ∈ R) : w.cell? ⟨r.c, 0, none⟩ = some (.int .i64 r.cl.n) ∧ w.cell? ⟨r.c, 1, none⟩ = some (.int .i64 r.cl.cr) ∧ w.cell? ⟨r.c, 2, none⟩ = some (.slice r.A r.cl.L.length r.cc) ∧ ∀ i, w.frozen? ⟨r.c, i, none⟩ = false :=
  ⟨(h.cl r hr).cell 0, (h.cl r hr).cell 1, (h.cl r hr).cell 2, (h.cl r hr).frozen⟩
set_option maxHeartbeats 1000000 in
theorem none_no (h : QR w g lb mb p R t n) : Calls Try.prog 31 #[.pointer (some ⟨g, 0, none⟩)] w fun e w' => e = .returned (.bool false) ∧ w = w' := by
  obtain ⟨_, _, _, _, c4, _⟩ := h.cells
  clear h
  go_enter Try.func31, Try.ntmps31
  go_wp2
  go_ret
  exact ⟨rfl, rfl⟩
set_option maxHeartbeats 1000000 in
theorem none_nil (w : World) : Calls Try.prog 31 #[.pointer none] w fun e w' => e = .returned (.bool true) ∧ w = w' := by
  go_enter Try.func31, Try.ntmps31
  go_wp2
  go_ret
  exact ⟨rfl, rfl⟩
/-- One that New did not make. -/
def ZeroQ (w : World) (g : Nat) : Prop := Blk w g 52 #[.int .i64 0, .int .i64 0, .int .i64 0, .int .i64 0, .pointer none, .map none, .bool false, .int .i64 0]
set_option maxHeartbeats 1000000 in
theorem none_zero (h : ZeroQ w g) : Calls Try.prog 31 #[.pointer (some ⟨g, 0, none⟩)] w fun e w' => e = .returned (.bool true) ∧ w = w' := by
  have c4 := Blk.cell h 4
  simp at c4
  clear h
  go_enter Try.func31, Try.ntmps31
  go_wp2
  refine bodyPost_ret (results_tmp (by rfl) _ _ _) rfl ?_
  exact ⟨rfl, rfl⟩
theorem assert_client (v : Value) (W : World) : (Instr.typeAssert (.iface 60 v) 20 60 true).run Try.prog W = .ok (.tuple #[v, .bool true]) W := by
  simp [Instr.typeAssert, run_underlying Try.underlying60]
set_option maxHeartbeats 1000000 in
theorem of_row (h : QR w g lb mb p R t n) (hr : r ∈ R) : Calls Try.prog 34 #[.pointer (some ⟨r.e, 0, none⟩)] w fun e w' => e = .returned (.pointer (some ⟨r.c, 0, none⟩)) ∧ w = w' := by
  obtain ⟨a, b, hb⟩ := h.elt hr
  have c0 := hb.cell 0
  simp [eltR] at c0
  have ha := assert_client (pt r.c) w
  simp only [pt] at c0 ha
  clear h hb
  go_enter Try.func34, Try.ntmps34
  go_wp2
  go_ret
  exact ⟨rfl, rfl⟩
theorem keyed_int : Go.Maps.Keyed Try.prog 3 := Go.Maps.int_keyed Try.underlying3
theorem key_int {a : Int} (h : wfI a) : keyOf Try.prog 3 (.int .i64 a) = some (.int .i64 a) := Go.Maps.keyOf_int_mk Try.underlying3 (by simp only [Lit.wf, Bool.and_eq_true, decide_eq_true_eq]; exact h)
theorem zero_elt (w : World) : (zeroValue 57).run Try.prog w = .ok (.pointer none) w := by kernel_rfl
/-- A look at the map. -/
theorem QR.look (h : QR w g lb mb p R t n) {a : Int} (ha : wfI a) : (Instr.lookup 50 (.map (some mb)) (.int .i64 a) true).run Try.prog w = .ok (.tuple #[(tabQ R (.int .i64 a)).getD (.pointer none), .bool (tabQ R (.int .i64 a)).isSome]) w := by
  have := h.map.look (t := 50) keyed_int Try.underlying50 (zero_elt w) (key_int ha) true
  simpa using this
set_option maxHeartbeats 1000000 in
theorem len_any (h : QR w g lb mb p R t n) : Calls Try.prog 19 #[.pointer (some ⟨g, 0, none⟩)] w fun e w' => e = .returned (.int .i64 n) ∧ w = w' := by
  obtain ⟨_, _, _, _, _, _, _, c7, cf⟩ := h.cells
  have C := hid (none_no h)
  clear h
  go_enter Try.func19, Try.ntmps19
  go_wp2_with fail
  refine C.out.mono ?_
  rintro e _ ⟨rfl, rfl⟩
  go_wp2
  go_ret
  exact ⟨rfl, rfl⟩
set_option maxHeartbeats 1000000 in
theorem of_yes (h : QR w g lb mb p R t n) (hr : r ∈ R) : Calls Try.prog 14 #[.pointer (some ⟨g, 0, none⟩), .int .i64 r.cl.n] w fun e w' => e = .returned (.int .i64 r.cl.L.length) ∧ w = w' := by
  obtain ⟨_, _, _, _, _, c5, _, _, cf⟩ := h.cells
  obtain ⟨_, _, d2, df⟩ := h.ccells hr
  have hl := h.look (h.wf r hr)
  rw [tab_at h.dn hr] at hl
  simp only [Option.getD_some, Option.isSome_some, pt] at hl
  have C := hid (none_no h)
  have C2 := hid (of_row h hr)
  have hc9 := (h.own r hr).rd.n_le
  clear h
  go_enter Try.func14, Try.ntmps14
  go_wp2_with fail
  refine C.out.mono ?_
  rintro e _ ⟨rfl, rfl⟩
  go_wp2_with fail
  refine C2.out.mono ?_
  rintro e _ ⟨rfl, rfl⟩
  go_wp2
  go_ret
  exact ⟨rfl, rfl⟩
set_option maxHeartbeats 1000000 in
theorem of_no (h : QR w g lb mb p R t n) (a : Int) (ha : wfI a) (hno : ∀ r ∈ R, r.cl.n ≠ a) : Calls Try.prog 14 #[.pointer (some ⟨g, 0, none⟩), .int .i64 a] w fun e w' => e = .returned (.int .i64 0) ∧ w = w' := by
  obtain ⟨_, _, _, _, _, c5, _, _, cf⟩ := h.cells
  have hl := h.look ha
  rw [tab_no h.dn hno] at hl
  simp only [Option.getD_none, Option.isSome_none] at hl
  have C := hid (none_no h)
  clear h
  go_enter Try.func14, Try.ntmps14
  go_wp2_with fail
  refine C.out.mono ?_
  rintro e _ ⟨rfl, rfl⟩
  go_wp2
  go_ret
  exact ⟨rfl, rfl⟩
set_option maxHeartbeats 1000000 in
set_option maxRecDepth 100000 in
theorem new_no (a b c d : Int) (w : World) (h : ¬ Par.ok ⟨a, b, c, d⟩) :
    Calls Try.prog 11 #[.int .i64 a, .int .i64 b, .int .i64 c, .int .i64 d] w fun e w' => e = .returned (.tuple #[.pointer none, .int .i64 2]) ∧ w = w' := by
  have hh : a < 1 ∨ ¬ a < 1 ∧ (1024 < a ∨ ¬ 1024 < a ∧ (b < 1 ∨ ¬ b < 1 ∧ (64 < b ∨ ¬ 64 < b ∧ (c < 1 ∨ ¬ c < 1 ∧ (4096 < c ∨ ¬ 4096 < c ∧ (d < 1 ∨ ¬ d < 1 ∧ c < d)))))) := by
    unfold Par.ok at h; simp only at h; omega
  clear h
  rcases hh with h1 | ⟨h1, h2 | ⟨h2, h3 | ⟨h3, h4 | ⟨h4, h5 | ⟨h5, h6 | ⟨h6, h7 | ⟨h7, h8⟩⟩⟩⟩⟩⟩⟩
  all_goals
    go_enter Try.func11, Try.ntmps11
    go_wp2
    go_ret2
    exact ⟨rfl, rfl⟩
set_option maxHeartbeats 1000000 in
set_option maxRecDepth 100000 in
theorem new_ok (p : Par) (w : World) (h : p.ok) :
    Calls Try.prog 11 #[.int .i64 p.clients, .int .i64 p.items, .int .i64 p.quantum, .int .i64 p.most] w fun e w' => ∃ g lb mb, e = .returned (.tuple #[.pointer (some ⟨g, 0, none⟩), .int .i64 0]) ∧ QR w' g lb mb p [] false 0 ∧ (∀ k, ownsQ g lb mb [] k → w.heap.size ≤ k) ∧ Ext w w' := by
  obtain ⟨⟨h1, h2⟩, ⟨h3, h4⟩, ⟨h5, h6⟩, h7, h8⟩ := id h
  have q1 : ¬ p.clients < 1 := by omega
  have q2 : ¬ 1024 < p.clients := by omega
  have q3 : ¬ p.items < 1 := by omega
  have q4 : ¬ 64 < p.items := by omega
  have q5 : ¬ p.quantum < 1 := by omega
  have q6 : ¬ 4096 < p.quantum := by omega
  have q7 : ¬ p.most < 1 := by omega
  have q8 : ¬ p.quantum < p.most := by omega
  have hmm := @run_makeMap Try.prog
  have C := hid (chain_new w)
  clear h1 h2 h3 h4 h5 h6 h7 h8 h
  go_enter Try.func11, Try.ntmps11
  go_wp2_with fail
  refine C.out.mono ?_
  rintro e w1 ⟨lb, rfl, h1, h2, h3⟩
  have H1 := hid h1
  have H2 := hid h2
  have H3 := hid h3
  clear h1 h2 h3
  go_wp2
  go_ret2
  refine ⟨w1.heap.size + 1, lb, w1.heap.size, rfl, ?_, ?_, ?_⟩
  · exact { top := by
              have := Blk.new (w1.alloc (.map #[] 0)) 52 #[.int .i64 p.clients, .int .i64 p.items, .int .i64 p.quantum, .int .i64 p.most, pt lb, .map (some w1.heap.size), .bool false, .int .i64 0]
              simpa using this
            ring := (H1.out.ext (ext_alloc _ _)).ext (ext_alloc _ _)
            map := ((MapF.made w1 Try.prog 3).alloc _).congr fun x => by simp [tabQ]
            cl := by simp
            own := by simp
            wf := by simp
            dn := by simp [difN]
            dc := by simp [difC]
            da := by simp [difA] }
  · have := H3.out.size
    have h2 := H2.out
    rintro k (rfl | rfl | rfl | ⟨r, hr, _⟩)
    · omega
    · omega
    · omega
    · cases hr
  · exact ext_trans H3.out (ext_trans (ext_alloc _ _) (ext_alloc _ _))
/-- What leaves may turn. -/
def ownsL (g lb mb : Nat) (R : List Row) (k : Nat) : Prop := k = g ∨ k = lb ∨ k = mb ∨ ∃ r ∈ R, k = r.e
theorem ownsL.to {k : Nat} (h : ownsL g lb mb R k) : ownsQ g lb mb R k := by
  rcases h with h | h | h | ⟨r, hr, h⟩
  · exact .inl h
  · exact .inr (.inl h)
  · exact .inr (.inr (.inl h))
  · exact .inr (.inr (.inr ⟨r, hr, .inl h⟩))
set_option maxHeartbeats 4000000 in
set_option maxRecDepth 100000 in
/-- leaves. -/
theorem leaves_row (h : QR w g lb mb p (R1 ++ r :: R2) t n) :
    Calls Try.prog 37 #[.pointer (some ⟨g, 0, none⟩), .pointer (some ⟨r.e, 0, none⟩)] w fun e w' => e = .returned (.tuple #[]) ∧ QR w' g lb mb p (R1 ++ R2) (if R1 = [] then false else t) n ∧ Shy (ownsL g lb mb (R1 ++ r :: R2)) w w' := by
  have C1 := hid (chain_front h.ring)
  obtain ⟨_, _, _, _, c4, _, _, _, cf⟩ := h.cells
  obtain ⟨v, hv⟩ : ∃ v, frontV ((R1 ++ r :: R2).map eltR) = v := ⟨_, rfl⟩
  rw [hv] at C1
  have heq : (binOp .eql 57 (.pointer (some ⟨r.e, 0, none⟩)) v).run Try.prog w = .ok (.bool (decide (R1 = []))) w := by
    rw [← hv]
    cases R1 with
    | nil => exact eq_elt_same _ w
    | cons s R1 =>
      have hne : r.e ≠ s.e := by
        have := h.ring.2.2.1
        simp [eltR] at this
        intro e
        exact this.1.2.1 e.symm
      obtain ⟨a, b, h1⟩ := h.elt (r := r) (by simp)
      obtain ⟨a', b', h2⟩ := h.elt (r := s) (by simp)
      exact eq_elt_other h1 h2 hne
  obtain ⟨b, hb⟩ : ∃ b, decide (R1 = []) = b := ⟨_, rfl⟩
  rw [hb] at heq
  have hret : (if R1 = [] then false else t) = if b then false else t := by rw [← hb]; by_cases h : R1 = [] <;> simp [h]
  rw [hret]
  have H := hid h
  clear h hv hret hb
  have key : ∀ w0 : World, ∀ t0 : Bool, QR w0 g lb mb p (R1 ++ r :: R2) t0 n → Shy (ownsL g lb mb (R1 ++ r :: R2)) w w0 → ∃ w2, (∀ ty, (Builtin.delete_ #[50, 3] ty #[.map (some mb), .int .i64 r.cl.n]).run Try.prog w0 = .ok (.tuple #[]) w2) ∧ w2.cell? ⟨g, 4, none⟩ = some (.pointer (some ⟨lb, 0, none⟩)) ∧ w2.cell? ⟨g, 5, none⟩ = some (.map (some mb)) ∧ w2.cell? ⟨r.c, 0, none⟩ = some (.int .i64 r.cl.n) ∧ (∀ i, w2.frozen? ⟨g, i, none⟩ = false) ∧
      Calls Try.prog 43 #[.pointer (some ⟨lb, 0, none⟩), .pointer (some ⟨r.e, 0, none⟩)] w2 fun e w' => e = .returned (.tuple #[]) ∧ QR w' g lb mb p (R1 ++ R2) t0 n ∧ Shy (ownsL g lb mb (R1 ++ r :: R2)) w w' := by
    intro w0 t0 H0 s0
    obtain ⟨w2, hrun, hm, ht⟩ := H0.map.drop (t := 50) keyed_int Try.underlying50 (key_int (H0.wf r (by simp))) 0
    rw [tab_at H0.dn (by simp)] at hm
    simp only [Option.isSome_some, if_true] at hm
    have s1 : Shy (fun k => k = mb) w0 w2 := (Shy.refl w0).grown ht.grown fun _ e _ => by cases e; rfl
    obtain ⟨o1, o2, o3⟩ := H0.g_other
    obtain ⟨l1, l2⟩ := H0.lb_other
    have m1 := H0.mb_other
    have hg2 := H0.top.shy s1 o2
    have hring : RingB w2 lb (R1.map eltR ++ eltR r :: R2.map eltR) := by
      have := H0.ring.shy s1 l1 fun x hx => by
        obtain ⟨s, hs, rfl⟩ := List.mem_map.1 hx
        exact (m1 s hs).1
      simpa using this
    refine ⟨w2, fun ty => ?_, hg2.cell 4, hg2.cell 5, ((H0.cl r (by simp)).shy s1 (m1 r (by simp)).2.1).cell 0, hg2.frozen, (chain_remove hring).mono ?_⟩
    · have := hrun
      unfold Builtin.delete_ at this ⊢
      exact this
    · rintro e w3 ⟨rfl, h1, h2⟩
      refine ⟨rfl, ?_, ?_⟩
      · have e1 : (R1 ++ r :: R2).map eltR = R1.map eltR ++ eltR r :: R2.map eltR := by simp
        exact H0.out s1 hm (by rw [e1]; exact h2) h1
      · refine (s0.trans s1 fun k _ h => .inr (.inr (.inl h))).trans h2 fun k _ h => ?_
        rcases h with h | h
        · exact .inr (.inl h)
        · have e1 : (R1 ++ r :: R2).map eltR = R1.map eltR ++ eltR r :: R2.map eltR := by simp
          rw [← e1] at h
          obtain ⟨s, hs, h⟩ := mem_elt h
          exact .inr (.inr (.inr ⟨s, hs, h⟩))
  have key := hid key
  obtain ⟨_, _, _, _, _, c5, _⟩ := H.out.cells
  obtain ⟨d0, _⟩ := H.out.ccells (r := r) (by simp)
  have hgc : ¬ r.c = g := (H.out.g_other.2.2 r (by simp)).2.1.symm
  cases b
  · go_enter Try.func37, Try.ntmps37
    go_wp2_with fail
    refine C1.out.mono ?_
    rintro e _ ⟨rfl, rfl⟩
    go_wp2_with fail
    obtain ⟨w2, hrun, k4, k5, k6, kf, C2⟩ := key.out (w.drewN 1) t (H.out.ext (ext_drewN w 1)) (Shy.of_ext (ext_drewN w 1))
    have C2 := hid C2
    go_region_held3 (fun w' => w'.cell? ⟨g, 5, none⟩ = some (.map (some mb)) ∧ w'.cell? ⟨r.c, 0, none⟩ = some (.int .i64 r.cl.n)) (go_keep) (first | (go_at_call 34; refine (of_row (H.out.ext (ext_drewN w 1)) (by simp)).mono ?_; rintro e _ ⟨rfl, rfl⟩; have kk : (w.drewN 1).cell? ⟨g, 5, none⟩ = some (.map (some mb)) := c5; have kk2 : (w.drewN 1).cell? ⟨r.c, 0, none⟩ = some (.int .i64 r.cl.n) := d0))
    all_goals
      go_wp2_with fail
      refine C2.out.mono ?_
      rintro e w3 ⟨rfl, h1, h2⟩
      have H1 := hid h1
      have H2 := hid h2
      clear h1 h2
      go_wp2_with fail
      go_end0
      exact ⟨rfl, H1.out, H2.out⟩
  · go_enter Try.func37, Try.ntmps37
    go_wp2_with fail
    refine C1.out.mono ?_
    rintro e _ ⟨rfl, rfl⟩
    have HT := hid (H.out.set_t false)
    have ST := hid ((set_shy g 6 (.bool false) w).mono (V := ownsL g lb mb (R1 ++ r :: R2)) fun k _ e => .inl e)
    obtain ⟨w2, hrun, k4, k5, k6, kf, C2⟩ := key.out ((w.setCell ⟨g, 6, none⟩ (.bool false)).drewN 1) false (HT.out.ext (ext_drewN _ 1)) (ST.out.trans (Shy.of_ext (U := fun _ => False) (ext_drewN _ 1)) fun _ _ h => h.elim)
    have C2 := hid C2
    obtain ⟨_, _, _, _, _, c5', _⟩ := HT.out.cells
    obtain ⟨d0', _⟩ := HT.out.ccells (r := r) (by simp)
    have g6 := H.out.top.cell 6
    simp at g6
    go_wp2_with fail
    generalize hW : w.setCell ⟨g, 6, none⟩ (.bool false) = wT at *
    go_region_held3 (fun w' => w'.cell? ⟨g, 5, none⟩ = some (.map (some mb)) ∧ w'.cell? ⟨r.c, 0, none⟩ = some (.int .i64 r.cl.n)) (go_keep) (first | (go_at_call 34; refine (of_row (HT.out.ext (ext_drewN wT 1)) (by simp)).mono ?_; rintro e _ ⟨rfl, rfl⟩; have kk : (wT.drewN 1).cell? ⟨g, 5, none⟩ = some (.map (some mb)) := c5'; have kk2 : (wT.drewN 1).cell? ⟨r.c, 0, none⟩ = some (.int .i64 r.cl.n) := d0'))
    all_goals
      go_wp2_with fail
      refine C2.out.mono ?_
      rintro e w3 ⟨rfl, h1, h2⟩
      have H1 := hid h1
      have H2 := hid h2
      clear h1 h2
      go_wp2_with fail
      go_end0
      exact ⟨rfl, H1.out, H2.out⟩
end
end Go.Proofs.Ytkogagpahidenaa

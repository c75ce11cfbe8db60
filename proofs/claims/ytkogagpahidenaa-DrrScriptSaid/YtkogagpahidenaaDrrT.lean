/- Layer 21: the document's scheduler in memory; its small functions. -/
import Derived.Test.YtkogagpahidenaaDrrJ
namespace Go.Proofs.Ytkogagpahidenaa
open Go.BK Go.BK.DR Go.RowKit Go.Maps
set_option linter.unusedVariables false
/-- A line of the ring: its client, whether it has its turn, where its items stand. -/
structure Ln where
  cl : Cl
  t : Bool
  A : Option Addr
  cc : Nat
def cellsN (R : List Ln) : List Value := R.flatMap fun r => [.int .i64 r.cl.n, .int .i64 r.cl.cr, .bool r.t, .slice r.A r.cl.L.length r.cc]
def ln0 : Ln := ⟨⟨0, 0, []⟩, false, none, 0⟩
theorem cellsN_len (R : List Ln) : (cellsN R).length = R.length * 4 := by
  induction R with
  | nil => rfl
  | cons r R ih =>
    have : cellsN (r :: R) = [.int .i64 r.cl.n, .int .i64 r.cl.cr, .bool r.t, .slice r.A r.cl.L.length r.cc] ++ cellsN R := by simp [cellsN]
    rw [this, List.length_append, ih]
    simp
    omega
theorem cellsN_append (R S : List Ln) : cellsN (R ++ S) = cellsN R ++ cellsN S := by simp [cellsN]
theorem cellsN_one (R : List Ln) : ∀ u ∈ cellsN R, isOne u := by
  intro u hu
  unfold cellsN at hu
  rw [List.mem_flatMap] at hu
  obtain ⟨r, _, hu⟩ := hu
  simp at hu
  rcases hu with rfl | rfl | rfl | rfl <;> rfl
theorem cellsN_at {R : List Ln} {i : Nat} (h : i < R.length) : (cellsN R)[i * 4]? = some (.int .i64 (R.getD i ln0).cl.n) ∧ (cellsN R)[i * 4 + 1]? = some (.int .i64 (R.getD i ln0).cl.cr) ∧ (cellsN R)[i * 4 + 2]? = some (.bool (R.getD i ln0).t) ∧
    (cellsN R)[i * 4 + 3]? = some (.slice (R.getD i ln0).A (R.getD i ln0).cl.L.length (R.getD i ln0).cc) := by
  induction R generalizing i with
  | nil => simp at h
  | cons x L ih =>
    cases i with
    | zero => simp [cellsN]
    | succ i =>
      have := ih (i := i) (by simpa using h)
      rw [show (i + 1) * 4 = i * 4 + 1 + 1 + 1 + 1 from by omega]
      simpa [cellsN] using this
theorem cellsN_take (R : List Ln) (i : Nat) : (cellsN R).take (i * 4) = cellsN (R.take i) := by
  induction R generalizing i with
  | nil => simp [cellsN]
  | cons r R ih =>
    cases i with
    | zero => simp [cellsN]
    | succ i =>
      have : cellsN (r :: R) = [.int .i64 r.cl.n, .int .i64 r.cl.cr, .bool r.t, .slice r.A r.cl.L.length r.cc] ++ cellsN R := by simp [cellsN]
      rw [this, show (i + 1) * 4 = i * 4 + 1 + 1 + 1 + 1 from by omega]
      simp only [List.cons_append, List.nil_append, List.take_succ_cons]
      rw [ih]
      simp [cellsN]
theorem cellsN_drop (R : List Ln) (i : Nat) : (cellsN R).drop (i * 4) = cellsN (R.drop i) := by
  induction R generalizing i with
  | nil => simp [cellsN]
  | cons r R ih =>
    cases i with
    | zero => simp
    | succ i =>
      have : cellsN (r :: R) = [.int .i64 r.cl.n, .int .i64 r.cl.cr, .bool r.t, .slice r.A r.cl.L.length r.cc] ++ cellsN R := by simp [cellsN]
      rw [this, show (i + 1) * 4 = i * 4 + 1 + 1 + 1 + 1 from by omega]
      simp only [List.cons_append, List.nil_append, List.drop_succ_cons]
      rw [ih]
/-- The scheduler g, whose ring reads as R. -/
structure RfR (w : World) (g : Nat) (p : Par) (A : Option Addr) (c : Nat) (R : List Ln) : Prop where
  top : Blk w g 72 #[.int .i64 p.clients, .int .i64 p.items, .int .i64 p.quantum, .int .i64 p.most, .slice A R.length c]
  ring : RdG w 4 A R.length c (cellsN R)
  its : ∀ r ∈ R, OwnO isOne w 77 2 r.A r.cl.L.length r.cc (cellsI r.cl.L)
  gA : R ≠ [] → blk A ≠ some g
section
variable {U : Nat → Prop} {w w' : World} {g c : Nat} {p : Par} {A : Option Addr} {R R1 R2 : List Ln} {r : Ln}
theorem RfR.shy (h : RfR w g p A c R) (hs : Shy U w w') (h1 : ¬ U g) (h2 : ∀ k, blk A = some k → ¬ U k) (h3 : ∀ r ∈ R, ∀ k, blk r.A = some k → ¬ U k) : RfR w' g p A c R :=
  ⟨h.top.shy hs h1, hs.rdG h.ring h2, fun r hr => OwnO.shy hs (h.its r hr) (h3 r hr), h.gA⟩
theorem RfR.ext (h : RfR w g p A c R) (hs : Ext w w') : RfR w' g p A c R := h.shy (U := fun _ => False) (Shy.of_ext hs) id (fun _ _ => id) fun _ _ _ _ => id
theorem RfR.cells (h : RfR w g p A c R) : w.cell? ⟨g, 0, none⟩ = some (.int .i64 p.clients) ∧ w.cell? ⟨g, 1, none⟩ = some (.int .i64 p.items) ∧ w.cell? ⟨g, 2, none⟩ = some (.int .i64 p.quantum) ∧ w.cell? ⟨g, 3, none⟩ = some (.int .i64 p.most) ∧ w.cell? ⟨g, 4, none⟩ = some (.slice A R.length c) ∧ ∀ i, w.frozen? ⟨g, i, none⟩ = false :=
  ⟨h.top.cell 0, h.top.cell 1, h.top.cell 2, h.top.cell 3, h.top.cell 4, h.top.frozen⟩
theorem RfR.spot (h : RfR w g p A c R) (h0 : 0 < R.length) : ∃ b o, A = some ⟨b, o, none⟩ ∧ b < w.heap.size ∧ ∀ i, i < R.length → w.cell? ⟨b, o + i * 4, none⟩ = some (.int .i64 (R.getD i ln0).cl.n) ∧ w.cell? ⟨b, o + i * 4 + 1, none⟩ = some (.int .i64 (R.getD i ln0).cl.cr) ∧
    w.cell? ⟨b, o + i * 4 + 2, none⟩ = some (.bool (R.getD i ln0).t) ∧ w.cell? ⟨b, o + i * 4 + 3, none⟩ = some (.slice (R.getD i ln0).A (R.getD i ln0).cl.L.length (R.getD i ln0).cc) := by
  obtain ⟨b, o, hA, hb, hc⟩ := h.ring.2.2.2 h0
  refine ⟨b, o, hA, hb, fun i hi => ?_⟩
  obtain ⟨c0, c1, c2, c3⟩ := cellsN_at hi
  exact ⟨hc _ _ c0, by rw [Nat.add_assoc]; exact hc _ _ c1, by rw [Nat.add_assoc]; exact hc _ _ c2, by rw [Nat.add_assoc]; exact hc _ _ c3⟩
theorem getD_mid {α : Type} (S1 : List α) (s : α) (S2 : List α) (d : α) : (S1 ++ s :: S2).getD S1.length d = s := by simp [List.getD]
set_option maxHeartbeats 400000 in
theorem within_any (n m : Int) (w : World) : Calls Try.prog 39 #[.int .i64 n, .int .i64 m] w fun e w' => e = .returned (.bool (decide (1 ≤ n ∧ n ≤ m))) ∧ w = w' := by
  obtain ⟨b, hb⟩ : ∃ b, decide (1 ≤ n ∧ n ≤ m) = b := ⟨_, rfl⟩
  rw [hb]
  rcases (show n < 1 ∨ ¬ n < 1 ∧ m < n ∨ ¬ n < 1 ∧ ¬ m < n by omega) with h1 | ⟨h1, h2⟩ | ⟨h1, h2⟩
  · have hb' : b = false := by rw [← hb]; simp; omega
    have q1 : decide (1 ≤ n) = false := by simp; omega
    subst hb'
    clear hb h1
    go_enter Try.func39, Try.ntmps39
    go_wp2
    go_ret
    exact ⟨rfl, rfl⟩
  · have hb' : b = false := by rw [← hb]; simp; omega
    have q1 : decide (1 ≤ n) = true := by simp; omega
    have q2 : decide (n ≤ m) = false := by simp; omega
    subst hb'
    clear hb h1 h2
    go_enter Try.func39, Try.ntmps39
    go_wp2
    go_ret
    exact ⟨rfl, rfl⟩
  · have hb' : b = true := by rw [← hb]; simp; omega
    have q1 : decide (1 ≤ n) = true := by simp; omega
    have q2 : decide (n ≤ m) = true := by simp; omega
    subst hb'
    clear hb h1 h2
    go_enter Try.func39, Try.ntmps39
    go_wp2
    go_ret
    exact ⟨rfl, rfl⟩
def AtRel (R : List Ln) (a : Int) (i : Value) : Prop := ∃ k : Nat, k ≤ R.length ∧ i = .int .i64 k ∧ ∀ j, j < k → (R.getD j ln0).cl.n ≠ a
set_option maxHeartbeats 1000000 in
set_option maxRecDepth 100000 in
theorem rat_no (h : RfR w g p A c R) (a : Int) (hno : ∀ r ∈ R, r.cl.n ≠ a) : Calls Try.prog 40 #[.pointer (some ⟨g, 0, none⟩), .int .i64 a] w fun e w' => e = .returned (.int .i64 (-1)) ∧ w = w' := by
  obtain ⟨_, _, _, _, c4, cf⟩ := h.cells
  have hn9 := h.ring.n_le
  have H := hid h
  have HNO := hid hno
  obtain ⟨n, hn⟩ : ∃ n, R.length = n := ⟨_, rfl⟩
  rw [hn] at c4 hn9
  have HN := hid hn
  clear h hno hn
  go_enter Try.func40, Try.ntmps40
  go_wp2_with fail
  go_loop [5] (fun i => ∃ k : Nat, k ≤ n ∧ i = .int .i64 k) (fun i => n - (intOf i).toNat)
  case atStart => exact ⟨0, Nat.zero_le _, rfl⟩
  case round =>
    obtain ⟨k, hk, rfl⟩ := hrel
    by_cases hlt : k < n
    · have i1 : (k : Int) < (n : Int) := by omega
      obtain ⟨b, o, rfl, hb, hc⟩ := H.out.spot (by rw [HN.out]; omega)
      obtain ⟨x0, _⟩ := hc k (by rw [HN.out]; exact hlt)
      have hne : ((R.getD k ln0).cl.n == a) = false := by
        have hk' : k < R.length := by rw [HN.out]; exact hlt
        have : R.getD k ln0 ∈ R := by simp [List.getD, hk']
        simpa using HNO.out _ this
      obtain ⟨x, hx⟩ : ∃ x, (R.getD k ln0).cl.n = x := ⟨_, rfl⟩
      rw [hx] at x0 hne
      clear hc hx hb
      go_wp2_with fail
      go_round
      case rel => exact ⟨k + 1, by omega, by go_num⟩
      case measure => simp [intOf]; omega
    · obtain rfl : n = k := by omega
      have i1 : ¬ (n : Int) < (n : Int) := by omega
      go_wp2_with fail
      go_ret
      exact ⟨rfl, rfl⟩
set_option maxHeartbeats 1000000 in
set_option maxRecDepth 100000 in
theorem rat_yes (h : RfR w g p A c (R1 ++ r :: R2)) (hno : ∀ s ∈ R1, s.cl.n ≠ r.cl.n) : Calls Try.prog 40 #[.pointer (some ⟨g, 0, none⟩), .int .i64 r.cl.n] w fun e w' => e = .returned (.int .i64 R1.length) ∧ w = w' := by
  obtain ⟨_, _, _, _, c4, cf⟩ := h.cells
  have hn9 := h.ring.n_le
  obtain ⟨b, o, rfl, hb, hc⟩ := h.spot (by simp; omega)
  have HNO := hid hno
  obtain ⟨n, hn⟩ : ∃ n, (R1 ++ r :: R2).length = n := ⟨_, rfl⟩
  obtain ⟨m, hm⟩ : ∃ m, R1.length = m := ⟨_, rfl⟩
  have hmn : m < n := by rw [← hn, ← hm]; simp
  rw [hn] at c4 hn9
  have HN := hid hn
  have HM := hid hm
  obtain ⟨a, ha⟩ : ∃ a, r.cl.n = a := ⟨_, rfl⟩
  rw [ha, hm]
  have HA := hid ha
  have HC := hid hc
  clear h hno hn hm ha hc
  go_enter Try.func40, Try.ntmps40
  go_wp2_with fail
  go_loop [5] (fun i => ∃ k : Nat, k ≤ m ∧ i = .int .i64 k) (fun i => n - (intOf i).toNat)
  case atStart => exact ⟨0, Nat.zero_le _, rfl⟩
  case round =>
    obtain ⟨k, hk, rfl⟩ := hrel
    have i1 : (k : Int) < (n : Int) := by omega
    obtain ⟨x0, _⟩ := HC.out k (by rw [HN.out]; omega)
    by_cases hlt : k < m
    · have hne : (((R1 ++ r :: R2).getD k ln0).cl.n == a) = false := by
        have hk' : k < R1.length := by rw [HM.out]; exact hlt
        have e : (R1 ++ r :: R2).getD k ln0 = R1.getD k ln0 := by simp [List.getD, List.getElem?_append_left hk']
        have : R1.getD k ln0 ∈ R1 := by simp [List.getD, hk']
        rw [e, ← HA.out]
        simpa using HNO.out _ this
      obtain ⟨x, hx⟩ : ∃ x, ((R1 ++ r :: R2).getD k ln0).cl.n = x := ⟨_, rfl⟩
      rw [hx] at x0 hne
      clear hx hb
      go_wp2_with fail
      go_round
      case rel => exact ⟨k + 1, by omega, by go_num⟩
      case measure => simp [intOf]; omega
    · obtain rfl : m = k := by omega
      have e : (R1 ++ r :: R2).getD m ln0 = r := by rw [← HM.out]; exact getD_mid _ _ _ _
      rw [e, HA.out] at x0
      have hb2 : (a == a) = true := by simp
      clear e hb
      go_wp2_with fail
      go_ret
      exact ⟨rfl, rfl⟩
set_option maxHeartbeats 1000000 in
theorem rof_no (h : RfR w g p A c R) (a : Int) (hno : ∀ r ∈ R, r.cl.n ≠ a) : Calls Try.prog 27 #[.pointer (some ⟨g, 0, none⟩), .int .i64 a] w fun e w' => e = .returned (.int .i64 0) ∧ w = w' := by
  have C := hid (rat_no h a hno)
  clear h hno
  go_enter Try.func27, Try.ntmps27
  go_wp2_with fail
  refine C.out.mono ?_
  rintro e _ ⟨rfl, rfl⟩
  go_wp2_with fail
  go_ret
  exact ⟨rfl, rfl⟩
set_option maxHeartbeats 1000000 in
theorem rof_yes (h : RfR w g p A c (R1 ++ r :: R2)) (hno : ∀ s ∈ R1, s.cl.n ≠ r.cl.n) : Calls Try.prog 27 #[.pointer (some ⟨g, 0, none⟩), .int .i64 r.cl.n] w fun e w' => e = .returned (.int .i64 r.cl.L.length) ∧ w = w' := by
  have C := rat_yes h hno
  obtain ⟨_, _, _, _, c4, cf⟩ := h.cells
  have hn9 := h.ring.n_le
  obtain ⟨b, o, rfl, hb, hc⟩ := h.spot (by simp; omega)
  obtain ⟨_, _, _, x3⟩ := hc R1.length (by simp)
  rw [getD_mid] at x3
  have hl9 := (h.its r (by simp)).rd.n_le
  obtain ⟨n, hn⟩ : ∃ n, (R1 ++ r :: R2).length = n := ⟨_, rfl⟩
  obtain ⟨m, hm⟩ : ∃ m, R1.length = m := ⟨_, rfl⟩
  have hmn : m < n := by rw [← hn, ← hm]; simp
  rw [hn] at c4 hn9
  rw [hm] at x3 C
  have i1 : (m : Int) < (n : Int) := by omega
  have C := hid C
  clear h hno hn hm hc
  go_enter Try.func27, Try.ntmps27
  go_wp2_with fail
  refine C.out.mono ?_
  rintro e _ ⟨rfl, rfl⟩
  go_wp2_with fail
  go_ret
  exact ⟨rfl, rfl⟩
def sumN (R : List Ln) : Nat := (R.map fun r => r.cl.L.length).sum
set_option maxHeartbeats 1000000 in
set_option maxRecDepth 100000 in
theorem rlen_any (h : RfR w g p A c R) (hs : sumN R ≤ 65536) : Calls Try.prog 26 #[.pointer (some ⟨g, 0, none⟩)] w fun e w' => e = .returned (.int .i64 (sumN R)) ∧ w = w' := by
  obtain ⟨_, _, _, _, c4, cf⟩ := h.cells
  have hn9 := h.ring.n_le
  have H := hid h
  obtain ⟨n, hn⟩ : ∃ n, R.length = n := ⟨_, rfl⟩
  rw [hn] at c4 hn9
  have HN := hid hn
  have HS := hid hs
  have sumTake : ∀ (R : List Ln) (k : Nat), k < R.length → sumN (R.take (k + 1)) = sumN (R.take k) + (R.getD k ln0).cl.L.length := by
    intro R k hk
    unfold sumN
    rw [List.take_succ_eq_append_getElem hk, List.map_append, List.sum_append]
    simp [List.getD, hk]
  have sumLe : ∀ (R : List Ln) (k : Nat), sumN (R.take k) ≤ sumN R := by
    intro R k
    have e : sumN R = sumN (R.take k) + sumN (R.drop k) := by
      unfold sumN
      rw [← List.sum_append, ← List.map_append, List.take_append_drop]
    omega
  have ST := hid (sumTake R)
  have SL := hid (sumLe R)
  clear h hn hs sumTake sumLe
  go_enter Try.func26, Try.ntmps26
  go_wp2_with fail
  go_loop [3, 4] (fun s i => ∃ k : Nat, k ≤ n ∧ i = .int .i64 k ∧ s = .int .i64 (sumN (R.take k))) (fun _ i => n - (intOf i).toNat)
  case atStart => exact ⟨0, Nat.zero_le _, rfl, rfl⟩
  case round =>
    obtain ⟨k, hk, rfl, rfl⟩ := hrel
    by_cases hlt : k < n
    · have i1 : (k : Int) < (n : Int) := by omega
      have hkR : k < R.length := by rw [HN.out]; exact hlt
      obtain ⟨b, o, rfl, hb, hc⟩ := H.out.spot (by omega)
      obtain ⟨_, _, _, x3⟩ := hc k hkR
      have hstep := ST.out k hkR
      have hle := SL.out (k + 1)
      have hs := HS.out
      obtain ⟨x, hx⟩ : ∃ x, (R.getD k ln0).cl.L.length = x := ⟨_, rfl⟩
      obtain ⟨y, hy⟩ : ∃ y, sumN (R.take k) = y := ⟨_, rfl⟩
      rw [hx] at x3 hstep
      rw [hy] at hstep ⊢
      have hxy : y + x ≤ 65536 := by omega
      have HST := hid hstep
      clear hc hx hb hy hstep hle hs hkR
      go_wp2_with fail
      go_round
      case rel => exact ⟨k + 1, by omega, by go_num, by rw [HST.out]; go_num⟩
      case measure => simp [intOf]; omega
    · obtain rfl : n = k := by omega
      have i1 : ¬ (n : Int) < (n : Int) := by omega
      have e : R.take n = R := List.take_of_length_le (by rw [HN.out]; exact Nat.le_refl _)
      rw [e]
      clear e
      go_wp2_with fail
      go_ret
      exact ⟨rfl, rfl⟩
def RcRel (w : World) (g : Nat) (p : Par) (A : Option Addr) (c n : Nat) (R : List Ln) (o i : Value) (wr : World) : Prop :=
  ∃ k A' c', k ≤ n ∧ i = .int .i64 (k : Nat) ∧ o = .slice A' k c' ∧ OwnG isI wr w.heap.size 3 1 A' k c' (intsV ((R.take k).map fun r => r.cl.n)) ∧ RfR wr g p A c R ∧ Ext w wr
set_option maxHeartbeats 4000000 in
set_option maxRecDepth 100000 in
theorem rclients_any (h : RfR w g p A c R) (hl : R.length ≤ 1000000) : Calls Try.prog 28 #[.pointer (some ⟨g, 0, none⟩)] w fun e w' => ∃ A c, e = .returned (.slice A R.length c) ∧ OwnG isI w' w.heap.size 3 1 A R.length c (intsV (R.map fun r => r.cl.n)) ∧ Ext w w' := by
  obtain ⟨i0, hi, hz0, hz1, hz2⟩ := info_parts info_int
  have H := hid h
  obtain ⟨n, hn⟩ : ∃ n, R.length = n := ⟨_, rfl⟩
  rw [hn] at hl ⊢
  have HN := hid hn
  have LT := hid (fun k (hk : k = g ∨ blk A = some k ∧ R ≠ []) => show k < w.heap.size from by
    rcases hk with rfl | ⟨hk, hne⟩
    · exact h.top.lt
    · obtain ⟨b, hb1, hb2⟩ := h.ring.lt (List.length_pos_iff.2 hne)
      rw [hk] at hb1
      injection hb1 with hb1
      omega)
  clear h hn
  go_enter Try.func28, Try.ntmps28
  go_wp2_with fail
  go_loopw [3, 4] (fun o i wr => RcRel w g p A c n R o i wr) (fun _ i _ => n - (intOf i).toNat)
  case atStart => exact ⟨0, none, 0, Nat.zero_le _, rfl, rfl, OwnG.nil _ _ _ _ _, H.out, Below.refl _ _⟩
  case round =>
    obtain ⟨k, A', c', hk, rfl, rfl, ow, hr, hx⟩ := hrel
    obtain ⟨_, _, _, _, c4, cf⟩ := hr.cells
    rw [HN.out] at c4
    by_cases hlt : k < n
    · have i1 : (k : Int) < (n : Int) := by omega
      have hkR : k < R.length := by rw [HN.out]; exact hlt
      obtain ⟨b, o, hA, hb, hc⟩ := hr.spot (by omega)
      obtain ⟨x0, _⟩ := hc k hkR
      rw [hA] at c4
      obtain ⟨x, hxx⟩ : ∃ x, (R.getD k ln0).cl.n = x := ⟨_, rfl⟩
      rw [hxx] at x0
      have HXX := hid hxx
      have HR := hid hr
      have HX := hid hx
      have hsz := hx.size
      have HA := hid hA
      clear hc hxx hb hr hx hA
      go_wp2_with (at_builtin; go_must (refine wpList_append_1' rfl (.tmp 14) (.tmp 23) 22 rfl w.heap.size 3 i0 (.int .i64 0) 8 Try.underlying22 hi hz0 hz1 hz2 rfl ⟨0, rfl⟩ (fun _ h => h.one) rfl ow (.int .i64 x) (by rfl) ⟨_, rfl⟩ (by omega) (by unfold maxLen; omega) hsz ?_); intro A5 c5 w5 o5 g5 x5 n5; have X5 := hid (below_of_grown HX.out hsz g5 (fun g hg => (ow.lt g hg).1)); have O5 := hid o5; clear o5 g5 x5 ow hsz)
      have e3 : R.take (k + 1) = R.take k ++ [R.getD k ln0] := by
        rw [List.take_succ_eq_append_getElem hkR]
        simp [List.getD, hkR]
      have HE3 := hid e3
      clear e3
      go_roundw
      case rel =>
        refine ⟨k + 1, A5, c5, by omega, by go_num, rfl, ?_, H.out.ext X5.out, X5.out⟩
        rw [HE3.out, List.map_append]
        simp only [List.map_cons, List.map_nil]
        rw [HXX.out]
        simpa [intsV] using O5.out
      case measure => simp [intOf]; omega
    · obtain rfl : n = k := by omega
      have i1 : ¬ (n : Int) < (n : Int) := by omega
      have OW := hid ow
      have HX := hid hx
      clear ow hx hr
      go_wp2_with fail
      go_ret
      refine ⟨A', c', rfl, ?_, HX.out⟩
      have e : R.take n = R := List.take_of_length_le (by rw [HN.out]; exact Nat.le_refl _)
      rw [e] at OW
      exact OW.out
end
end Go.Proofs.Ytkogagpahidenaa

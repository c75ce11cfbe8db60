/- A slice of structs of four ints: opened. -/
import Derived.Test.YtkogagpahidenaaFrameS
namespace Go.Proofs.Ytkogagpahidenaa
open Go.ChangeShapes Go.WideShapes Go.ChangeAt Go.RowKit Go.BK Go.Deep
set_option linter.unusedVariables false

section
variable {H : Type} {enc : TypeId × Value → H} {W : World}
theorem addr_blockQ (x : Addr) (k : Nat) : (x.add k).block = x.block := by
  unfold Addr.add
  split <;> first | rfl | (simp_all)
theorem open_iacts {t e : TypeId} {f0 f1 f2 f3 : Field} {v : Value} {x : DataW H × List MemPlace} {held : Bool}
    (ht : Try.prog.underlying t = some (.slice e)) (he : Try.prog.underlying e = some (.struct #[f0, f1, f2, f3])) (hone : oneCellFields Try.prog #[f0, f1, f2, f3] = true) (hC : Try.prog.cellsOf e = 4)
    (h0 : Try.prog.underlying f0.type = some (.int .i64)) (h1 : Try.prog.underlying f1.type = some (.int .i64)) (h2 : Try.prog.underlying f2.type = some (.int .i64)) (h3 : Try.prog.underlying f3.type = some (.int .i64))
    {A : Option Addr} {n c : Nat} (hv : v = .slice A n c)
    {fuel : Nat} (h : DataW.trod enc Try.prog W 0 (fun _ => true) held fuel t v.cells.toList = some x) :
    ∃ (K C S X : Nat → Int), n ≤ c ∧ c ≤ maxLen ∧ ∀ i, i < n → ∃ b o, A = some ⟨b, o, none⟩ ∧ b < W.heap.size ∧ W.cell? ⟨b, o + i * 4, none⟩ = some (.int .i64 (K i)) ∧ W.cell? ⟨b, o + i * 4 + 1, none⟩ = some (.int .i64 (C i)) ∧ W.cell? ⟨b, o + i * 4 + 2, none⟩ = some (.int .i64 (S i)) ∧ W.cell? ⟨b, o + i * 4 + 3, none⟩ = some (.int .i64 (X i)) ∧ (-9223372036854775808 ≤ K i ∧ K i ≤ 9223372036854775807) ∧ (-9223372036854775808 ≤ C i ∧ C i ≤ 9223372036854775807) ∧ (-9223372036854775808 ≤ S i ∧ S i ≤ 9223372036854775807) ∧ (-9223372036854775808 ≤ X i ∧ X i ≤ 9223372036854775807) := by
  subst hv
  rcases open_slice_fields ht he hone hC h with ⟨hcs, _⟩ | ⟨a, len, cap, m, D, Pl, hcs, _, hl, hm, hmm, _, hi⟩
  · simp [Value.cells] at hcs
    obtain ⟨rfl, rfl, rfl⟩ := hcs
    exact ⟨fun _ => 0, fun _ => 0, fun _ => 0, fun _ => 0, Nat.le_refl _, Nat.zero_le _, fun i hi => absurd hi (Nat.not_lt_zero _)⟩
  · simp [Value.cells] at hcs
    obtain ⟨rfl, rfl, rfl⟩ := hcs
    have key : ∀ i, i < n → ∃ p : Int × Int × Int × Int, ∃ b o, a = ⟨b, o, none⟩ ∧ b < W.heap.size ∧ W.cell? ⟨b, o + i * 4, none⟩ = some (.int .i64 p.1) ∧ W.cell? ⟨b, o + i * 4 + 1, none⟩ = some (.int .i64 p.2.1) ∧ W.cell? ⟨b, o + i * 4 + 2, none⟩ = some (.int .i64 p.2.2.1) ∧ W.cell? ⟨b, o + i * 4 + 3, none⟩ = some (.int .i64 p.2.2.2) ∧ (-9223372036854775808 ≤ p.1 ∧ p.1 ≤ 9223372036854775807) ∧ (-9223372036854775808 ≤ p.2.1 ∧ p.2.1 ≤ 9223372036854775807) ∧ (-9223372036854775808 ≤ p.2.2.1 ∧ p.2.2.1 ≤ 9223372036854775807) ∧ (-9223372036854775808 ≤ p.2.2.2 ∧ p.2.2.2 ≤ 9223372036854775807) := by
      intro i hin
      obtain ⟨ys, k, _, _, _, hf⟩ := hi i (by rw [hmm]; split <;> omega)
      obtain ⟨v0, y0, hc0, _, ht0⟩ := hf 0 f0 rfl
      obtain ⟨n0, hn0, hw0⟩ : ∃ n0, v0 = .int .i64 n0 ∧ (Lit.int .i64 n0).wf = true := by
        obtain ⟨n0, e0, _, w0⟩ := DataW.trod_int h0 ht0
        exact ⟨n0, by simpa using e0, w0⟩
      subst hn0
      obtain ⟨v1, y1, hc1, _, ht1⟩ := hf 1 f1 rfl
      obtain ⟨n1, hn1, hw1⟩ : ∃ n0, v1 = .int .i64 n0 ∧ (Lit.int .i64 n0).wf = true := by
        obtain ⟨n0, e0, _, w0⟩ := DataW.trod_int h1 ht1
        exact ⟨n0, by simpa using e0, w0⟩
      subst hn1
      obtain ⟨v2, y2, hc2, _, ht2⟩ := hf 2 f2 rfl
      obtain ⟨n2, hn2, hw2⟩ : ∃ n0, v2 = .int .i64 n0 ∧ (Lit.int .i64 n0).wf = true := by
        obtain ⟨n0, e0, _, w0⟩ := DataW.trod_int h2 ht2
        exact ⟨n0, by simpa using e0, w0⟩
      subst hn2
      obtain ⟨v3, y3, hc3, _, ht3⟩ := hf 3 f3 rfl
      obtain ⟨n3, hn3, hw3⟩ : ∃ n0, v3 = .int .i64 n0 ∧ (Lit.int .i64 n0).wf = true := by
        obtain ⟨n0, e0, _, w0⟩ := DataW.trod_int h3 ht3
        exact ⟨n0, by simpa using e0, w0⟩
      subst hn3
      obtain ⟨ys', k', _, _, _, hf'⟩ := hi 0 (by rw [hmm]; split <;> omega)
      obtain ⟨v0', y0', hc0', _, _⟩ := hf' 0 f0 rfl
      obtain ⟨b, o, sp⟩ := a
      have hs : sp = none := by
        have := spot_of hc0'
        simpa [Addr.add] using this
      subst hs
      have hb : b < W.heap.size := by
        have := World.block_lt_of_cell? W _ hc0
        rw [addr_blockQ] at this
        exact this
      refine ⟨(n0, n1, n2, n3), b, o, rfl, hb, ?_, ?_, ?_, ?_, wf_i64_bounds hw0, wf_i64_bounds hw1, wf_i64_bounds hw2, wf_i64_bounds hw3⟩
      · rw [Addr.add_lit] at hc0; exact hc0
      · rw [Addr.add_lit] at hc1; exact hc1
      · rw [Addr.add_lit] at hc2; exact hc2
      · rw [Addr.add_lit] at hc3; exact hc3
    refine ⟨fun i => if hi : i < n then (key i hi).choose.1 else 0, fun i => if hi : i < n then (key i hi).choose.2.1 else 0, fun i => if hi : i < n then (key i hi).choose.2.2.1 else 0, fun i => if hi : i < n then (key i hi).choose.2.2.2 else 0, hl, hm, fun i hin => ?_⟩
    obtain ⟨b, o, he, hb, q2⟩ := (key i hin).choose_spec
    refine ⟨b, o, by rw [he], hb, ?_⟩
    simp only [dif_pos hin]
    exact q2
end
end Go.Proofs.Ytkogagpahidenaa

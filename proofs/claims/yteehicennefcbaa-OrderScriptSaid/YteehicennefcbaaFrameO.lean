/- A slice of structs of a bool, an int and bytes: opened. -/
import Derived.Test.YteehicennefcbaaFrameS
import Derived.Test.YteehicennefcbaaKList
namespace Go.Proofs.Yteehicennefcbaa
open Go.ChangeShapes Go.WideShapes Go.ChangeAt Go.RowKit Go.BK Go.Deep
set_option linter.unusedVariables false

section
variable {H : Type} {enc : TypeId × Value → H} {W : World}
theorem addr_blockO (x : Addr) (k : Nat) : (x.add k).block = x.block := by
  unfold Addr.add
  split <;> first | rfl | (simp_all)
theorem open_bacts {t e : TypeId} {f0 f1 f2 : Field} {v : Value} {x : DataW H × List MemPlace} {held : Bool}
    (ht : Try.prog.underlying t = some (.slice e)) (he : Try.prog.underlying e = some (.struct #[f0, f1, f2])) (hone : oneCellFields Try.prog #[f0, f1, f2] = true) (hC : Try.prog.cellsOf e = 3)
    (h0 : Try.prog.underlying f0.type = some .bool) (h1 : Try.prog.underlying f1.type = some (.int .i64)) (h2 : Try.prog.underlying f2.type = some (.slice 5))
    {A : Option Addr} {n c : Nat} (hv : v = .slice A n c)
    {fuel : Nat} (h : DataW.trod enc Try.prog W 0 (fun _ => true) held fuel t v.cells.toList = some x) :
    ∃ (K : Nat → Bool) (N : Nat → Int) (S : Nat → Sl), n ≤ c ∧ c ≤ maxLen ∧ ∀ i, i < n → ∃ b o, A = some ⟨b, o, none⟩ ∧ b < W.heap.size ∧ W.cell? ⟨b, o + i * 3, none⟩ = some (.bool (K i)) ∧ W.cell? ⟨b, o + i * 3 + 1, none⟩ = some (.int .i64 (N i)) ∧ W.cell? ⟨b, o + i * 3 + 2, none⟩ = some (slv (S i)) ∧
      (-9223372036854775808 ≤ N i ∧ N i ≤ 9223372036854775807) ∧ Rd W (S i).1 (S i).2.1 (S i).2.2 := by
  subst hv
  rcases open_slice_fields ht he hone hC h with ⟨hcs, _⟩ | ⟨a, len, cap, m, D, Pl, hcs, _, hl, hm, hmm, _, hi⟩
  · simp [Value.cells] at hcs
    obtain ⟨rfl, rfl, rfl⟩ := hcs
    exact ⟨fun _ => false, fun _ => 0, fun _ => (none, 0, []), Nat.le_refl _, Nat.zero_le _, fun i hi => absurd hi (Nat.not_lt_zero _)⟩
  · simp [Value.cells] at hcs
    obtain ⟨rfl, rfl, rfl⟩ := hcs
    have key : ∀ i, i < n → ∃ p : Bool × Int × Sl, ∃ b o, a = ⟨b, o, none⟩ ∧ b < W.heap.size ∧ W.cell? ⟨b, o + i * 3, none⟩ = some (.bool p.1) ∧ W.cell? ⟨b, o + i * 3 + 1, none⟩ = some (.int .i64 p.2.1) ∧ W.cell? ⟨b, o + i * 3 + 2, none⟩ = some (slv p.2.2) ∧
        (-9223372036854775808 ≤ p.2.1 ∧ p.2.1 ≤ 9223372036854775807) ∧ Rd W p.2.2.1 p.2.2.2.1 p.2.2.2.2 := by
      intro i hin
      obtain ⟨ys, k, _, _, _, hf⟩ := hi i (by rw [hmm]; split <;> omega)
      obtain ⟨v0, y0, hc0, _, ht0⟩ := hf 0 f0 rfl
      obtain ⟨v1, y1, hc1, _, ht1⟩ := hf 1 f1 rfl
      obtain ⟨v2, y2, hc2, _, ht2⟩ := hf 2 f2 rfl
      obtain ⟨n0, hn0⟩ : ∃ n0, v0 = .bool n0 := by
        obtain ⟨n0, e0, _⟩ := DataW.trod_bool h0 ht0
        exact ⟨n0, by simpa using e0⟩
      obtain ⟨n1, hn1, hw1⟩ : ∃ n1, v1 = .int .i64 n1 ∧ (Lit.int .i64 n1).wf = true := by
        obtain ⟨n1, e1, _, w1⟩ := DataW.trod_int h1 ht1
        exact ⟨n1, by simpa using e1, w1⟩
      obtain ⟨S, hS, hR⟩ : ∃ S : Sl, v2 = slv S ∧ Rd W S.1 S.2.1 S.2.2 := by
        rcases open_ints h2 Try.underlying5 (by kernel_rfl) ht2 with ⟨hcs, _⟩ | ⟨x, l, c', zs, hcs, _, hl, hm, hz, _, hcell, hwz⟩
        · simp at hcs
          exact ⟨(none, 0, []), hcs, RdG.none_ _ _⟩
        · simp at hcs
          obtain ⟨L, hL, hr⟩ := rd_of_ints hl hm (by simpa using hz) hcell hwz
          exact ⟨(some x, c', L), by rw [hcs]; simp [slv, hL], hr⟩
      subst hn0; subst hn1; subst hS
      obtain ⟨ys', k', _, _, _, hf'⟩ := hi 0 (by rw [hmm]; split <;> omega)
      obtain ⟨v0', y0', hc0', _, _⟩ := hf' 0 f0 rfl
      obtain ⟨b, o, sp⟩ := a
      have hs : sp = none := by
        have := spot_of hc0'
        simpa [Addr.add] using this
      subst hs
      have hb : b < W.heap.size := by
        have := World.block_lt_of_cell? W _ hc0
        rw [addr_blockO] at this
        exact this
      refine ⟨(n0, n1, S), b, o, rfl, hb, ?_, ?_, ?_, wf_i64_bounds hw1, hR⟩
      · rw [Addr.add_lit] at hc0; exact hc0
      · rw [Addr.add_lit] at hc1; exact hc1
      · rw [Addr.add_lit] at hc2; exact hc2
    refine ⟨fun i => if hi : i < n then (key i hi).choose.1 else false, fun i => if hi : i < n then (key i hi).choose.2.1 else 0, fun i => if hi : i < n then (key i hi).choose.2.2 else (none, 0, []), hl, hm, fun i hin => ?_⟩
    obtain ⟨b, o, he, hb, q2, q3, q4⟩ := (key i hin).choose_spec
    refine ⟨b, o, by rw [he], hb, ?_⟩
    simp only [dif_pos hin]
    exact ⟨q2, q3, q4⟩
end
end Go.Proofs.Yteehicennefcbaa

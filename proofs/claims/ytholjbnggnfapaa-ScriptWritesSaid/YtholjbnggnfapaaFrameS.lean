/- Arguments that are slices of structs: opened to cells. -/
import Derived.Test.YtholjbnggnfapaaFrame
import Derived.Deep.Slices
import Derived.Deep.Fields
import Derived.ChangeSame
namespace Go.Proofs.Ytholjbnggnfapaa
open Go.ChangeShapes Go.WideShapes Go.ChangeAt Go.RowKit Go.BK Go.Deep
set_option linter.unusedVariables false

section
variable {H : Type} {enc : TypeId × Value → H} {P : Program} {w : World} {base : Nat} {spare : Nat → Bool} {held : Bool}
theorem open_slice_fields {t e : TypeId} {fs : Array Field} {fuel : Nat} {cs : List Value} {x : DataW H × List MemPlace} (ht : P.underlying t = some (.slice e)) (he : P.underlying e = some (.struct fs))
    (hone : oneCellFields P fs = true) (hC : P.cellsOf e = fs.size) (h : DataW.trod enc P w base spare held fuel t cs = some x) :
    (cs = [.slice none 0 0] ∧ x = (.nil, [])) ∨
    ∃ (a : Addr) (len cap m : Nat) (D : Nat → DataW H) (Pl : Nat → List MemPlace), cs = [.slice (some a) len cap] ∧ base ≤ a.block ∧ len ≤ cap ∧ cap ≤ maxLen ∧ m = (if spare a.block then cap else len) ∧
      x = (.slice ((List.range len).map D) ((List.range (m - len)).map fun j => D (len + j)), MemPlace.row a (m * fs.size) ++ (List.range m).flatMap Pl) ∧
      ∀ i, i < m → ∃ (ys : List (DataW H × List MemPlace)) (n : Nat), D i = .agg (ys.map (·.1)) ∧ Pl i = ys.flatMap (·.2) ∧ ys.length = fs.size ∧
        ∀ (j : Nat) (f : Field), fs[j]? = some f → ∃ (v : Value) (y : DataW H × List MemPlace), w.cell? (a.add (i * fs.size + j)) = some v ∧ ys[j]? = some y ∧ DataW.trod enc P w base spare held n f.type [v] = some y := by
  rcases open_slice ht h with h0 | ⟨a, len, cap, m, n, D, Pl, hcs, hb, hl, hm, hmm, hx, hi⟩
  · exact .inl h0
  · refine .inr ⟨a, len, cap, m, D, Pl, hcs, hb, hl, hm, hmm, by rw [hC] at hx; exact hx, fun i him => ?_⟩
    obtain ⟨cs', hc, ht'⟩ := hi i him
    rw [hC] at hc
    obtain ⟨ys, n', hn', hy, hlen, hyl, hf⟩ := DataW.trod_struct he ht'
    obtain ⟨_, hcl, hat⟩ := World.cells?_some hc
    simp only [Prod.mk.injEq] at hy
    refine ⟨ys, n', hy.1, hy.2, hyl, fun j f hj => ?_⟩
    obtain ⟨ho, hk⟩ := hone_of hone j f hj
    have hjl : j < fs.size := (Array.getElem?_eq_some_iff.1 hj).1
    have hcell := hat j hjl
    have hv : cs'[j]? = some (cs'[j]'(by omega)) := List.getElem?_eq_getElem (by omega)
    have h1 := hf j f hj
    rw [ho, hk] at h1
    have hone' : (cs'.drop j).take 1 = [cs'[j]'(by omega)] := by
      rw [List.drop_eq_getElem_cons (by omega)]
      rfl
    rw [hone'] at h1
    have hys : ys[j]? = some (ys[j]'(by omega)) := List.getElem?_eq_getElem (by omega)
    refine ⟨_, _, ?_, hys, h1.trans hys⟩
    rw [← Go.Deep.add_add, hcell, hv]

theorem flat_getD {α : Type} {k : Nat} (hk : 0 < k) (F : Nat → Nat → α) : ∀ (n j : Nat) (u : α), (((List.range n).flatMap fun i => (List.range k).map (F i))[j]? = some u) → j < n * k ∧ u = F (j / k) (j % k) := by
  intro n
  induction n with
  | zero => intro j u h; simp at h
  | succ n ih =>
    intro j u h
    rw [List.range_succ, List.flatMap_append] at h
    have hlen : ((List.range n).flatMap fun i => (List.range k).map (F i)).length = n * k := by
      clear ih h
      induction n with
      | zero => simp
      | succ n ih => rw [List.range_succ, List.flatMap_append, List.length_append, ih]; simp [Nat.add_mul]
    rcases Nat.lt_or_ge j (n * k) with hj | hj
    · rw [List.getElem?_append_left (by rw [hlen]; exact hj)] at h
      have := ih j u h
      exact ⟨by rw [Nat.add_mul]; omega, this.2⟩
    · rw [List.getElem?_append_right (by rw [hlen]; exact hj), hlen] at h
      simp only [List.flatMap_cons, List.flatMap_nil, List.append_nil, List.getElem?_map, List.getElem?_range'] at h
      rcases Nat.lt_or_ge (j - n * k) k with h2 | h2
      · rw [List.getElem?_range h2] at h
        simp at h
        have e1 : j = j - n * k + k * n := by rw [Nat.mul_comm k n]; omega
        have e2 : j / k = n := by rw [e1, Nat.add_mul_div_left _ _ hk, Nat.div_eq_of_lt h2]; omega
        have e3 : j % k = j - n * k := by
          have := Nat.add_mul_mod_self_left (j - n * k) k n
          rw [← e1, Nat.mod_eq_of_lt h2] at this
          exact this
        rw [e2, e3]
        exact ⟨by rw [Nat.add_mul]; omega, h.symm⟩
      · rw [List.getElem?_eq_none (by simpa using h2)] at h
        simp at h
end
end Go.Proofs.Ytholjbnggnfapaa

/- Arguments that are slices of texts: opened to cells. -/
import Derived.Test.YtcgcadhnecakaaaFrame
import Derived.Test.YtcgcadhnecakaaaKTxt
import Derived.SliceStrings
import Derived.ChangeSame
import Derived.Deep.Slices
namespace Go.Proofs.Ytcgcadhnecakaaa
open Go.ChangeShapes Go.WideShapes Go.ChangeAt Go.RowKit Go.BK Go.Deep
set_option linter.unusedVariables false

section
variable {H : Type} {enc : TypeId × Value → H} {W : World}
theorem open_texts {t e : TypeId} {held : Bool} (ht : Try.prog.underlying t = some (.slice e)) (he : Try.prog.underlying e = some .string) (hC : Try.prog.cellsOf e = 1)
    {A : Option Addr} {n c : Nat} {x : DataW H × List MemPlace} {fuel : Nat} (h : DataW.trod enc Try.prog W 0 (fun _ => true) held fuel t (Value.slice A n c).cells.toList = some x) :
    ∃ L : List (List UInt8), L.length = n ∧ RdT W A c L := by
  rcases open_strings ht he hC h with ⟨hcs, _⟩ | ⟨a, len, cap, ss, hcs, _, hl, hm, hss, _, hcell, hsz⟩
  · simp [Value.cells] at hcs
    obtain ⟨rfl, rfl, rfl⟩ := hcs
    exact ⟨[], rfl, RdG.none_ _ _, by simp⟩
  · simp [Value.cells] at hcs
    obtain ⟨rfl, rfl, rfl⟩ := hcs
    have hsc : ss.length = c := by simpa using hss
    refine ⟨(ss.take n).map (·.data.toList), by simp; omega, ⟨by rw [tvs_length, Nat.mul_one], by simp; omega, hm, fun h0 => ?_⟩, ?_⟩
    · have hn : 0 < n := by simp at h0; omega
      have hc0 := hcell 0 (by omega)
      obtain ⟨b, o, sp⟩ := a
      have hs : sp = none := by
        have := spot_of hc0
        simpa [Addr.add] using this
      subst hs
      have hb : b < W.heap.size := by
        have := World.block_lt_of_cell? W _ hc0
        rw [Addr.add_lit] at this
        exact this
      refine ⟨b, o, rfl, hb, fun j u hj => ?_⟩
      unfold tvs at hj
      rw [List.getElem?_map, List.getElem?_map, List.getElem?_take] at hj
      split at hj
      · rename_i hjn
        have hjl : j < ss.length := by omega
        rw [List.getElem?_eq_getElem hjl] at hj
        simp at hj
        have h2 := hcell j hjl
        rw [Addr.add_lit] at h2
        rw [h2, ← hj]
        rw [List.getD_eq_getElem?_getD, List.getElem?_eq_getElem hjl, Option.getD_some, str_of]
      · cases hj
    · intro s hs
      obtain ⟨u, hu, rfl⟩ := List.mem_map.1 hs
      have := hsz u (List.mem_of_mem_take hu)
      rw [Array.length_toList]
      exact this
end
end Go.Proofs.Ytcgcadhnecakaaa

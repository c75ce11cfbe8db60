/- The laws' own helper: long. -/
import Derived.Test.YtcgcadhnecakaaaKTxB
import Derived.Test.YtcgcadhnecakaaaLabC
namespace Go.Proofs.Ytcgcadhnecakaaa
open Go.BK Go.RowKit Go.BK.NM
set_option linter.unusedVariables false

def longS (L : List Bs) : Bool := L.any fun s => decide (100 < s.length)
theorem long_yes {L : List Bs} {k : Nat} (hk : k < L.length) (h : 100 < (L.getD k []).length) : longS L = true := by
  unfold longS
  rw [List.any_eq_true]
  refine ⟨L.getD k [], ?_, by simpa using h⟩
  rw [List.getD_eq_getElem?_getD, List.getElem?_eq_getElem hk]; exact List.getElem_mem _
theorem long_no {L : List Bs} (h : ∀ k, k < L.length → (L.getD k []).length ≤ 100) : longS L = false := by
  unfold longS
  rw [List.any_eq_false]
  intro s hs
  obtain ⟨k, hk, rfl⟩ := List.getElem_of_mem hs
  have := h k hk
  rw [List.getD_eq_getElem?_getD, List.getElem?_eq_getElem hk] at this
  simpa using this
theorem long_mem {L : List Bs} (h : longS L = false) : ∀ s ∈ L, s.length ≤ 100 := by
  intro s hs
  unfold longS at h
  have := List.any_eq_false.1 h s hs
  simpa using this

set_option maxHeartbeats 2000000 in
theorem long_in {A : Option Addr} {c : Nat} {L : List Bs} {w : World} (h : RdT w A c L) :
    Calls Try.prog 9 #[.slice A L.length c] w fun e w' => e = .returned (.bool (longS L)) ∧ Ext w w' := by
  have RA := hid h.1
  have n9 := h.1.n_le
  have HM := hid h.2
  obtain ⟨V, hV⟩ : ∃ V, V = longS L := ⟨_, rfl⟩
  rw [← hV]
  have HV := hid hV
  clear h hV
  go_enter Try.func9, Try.ntmps9
  go_wp2_with fail
  go_loopw [3] (fun iv wr => ∃ k : Nat, k ≤ L.length ∧ iv = .int .i64 k ∧ Hid (∀ j, j < k → (L.getD j []).length ≤ 100) ∧ Hid (Ext w wr)) (fun iv _ => L.length - (intOf iv).toNat)
  case atStart => exact ⟨0, Nat.zero_le _, rfl, hid (fun j hj => by omega), hid (ext_refl _)⟩
  case round =>
    obtain ⟨k, hk, rfl, HT, XX⟩ := hrel
    by_cases hlt : k < L.length
    · obtain ⟨g, o, hA, hg, hc⟩ := tvs_at (RA.out.ext XX.out) hlt
      subst hA
      obtain ⟨s, hs⟩ : ∃ s, s = L.getD k [] := ⟨_, rfl⟩
      rw [← hs] at hc
      have hsm : s ∈ L := by rw [hs, List.getD_eq_getElem?_getD, List.getElem?_eq_getElem hlt]; exact List.getElem_mem _
      have hsl := HM.out s hsm
      have h1 : (k : Int) < (L.length : Int) := by omega
      obtain ⟨ts, hts⟩ : ∃ x, x = str s := ⟨_, rfl⟩
      have htz : ts.size = s.length := by rw [hts, str_size]
      have ht9 : ts.size ≤ 9223372036854775807 := by unfold maxLen at hsl; omega
      rw [← hts] at hc
      have HS := hid hs
      clear hs hsm hts hsl
      by_cases hb : 100 < s.length
      · have y : decide ((100 : Int) < (ts.size : Int)) = true := by rw [decide_eq_true_iff]; omega
        have y' : decide (100 < ts.size) = true := by rw [decide_eq_true_iff]; omega
        have hv : V = true := by rw [HV.out]; exact long_yes hlt (by rw [← HS.out]; exact hb)
        clear htz
        go_wp2_with fail
        go_ret
        rw [hv]
        exact ⟨rfl, XX.out⟩
      · have y : decide ((100 : Int) < (ts.size : Int)) = false := by rw [decide_eq_false_iff_not]; omega
        have y' : decide (100 < ts.size) = false := by rw [decide_eq_false_iff_not]; omega
        have hn : Hid (∀ j, j < k + 1 → (L.getD j []).length ≤ 100) := by
          refine hid fun j hj => ?_
          rcases Nat.lt_succ_iff_lt_or_eq.1 hj with h | rfl
          · exact HT.out j h
          · rw [← HS.out]; omega
        clear htz
        go_wp2_with fail
        exact ⟨⟨k + 1, by omega, by go_num, hn, XX⟩, by simp [intOf]; omega⟩
    · obtain rfl : k = L.length := by omega
      have hv : V = false := by rw [HV.out]; exact long_no HT.out
      clear hlt hk
      go_wp2_with fail
      go_ret
      rw [hv]
      exact ⟨rfl, XX.out⟩
end Go.Proofs.Ytcgcadhnecakaaa

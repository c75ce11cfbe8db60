/- The law NameZones: the facts, and the walk whole. -/
import Derived.Test.YtcgcadhnecakaaaZonA
namespace Go.Proofs.Ytcgcadhnecakaaa
open Go.BK Go.RowKit Go.BK.NM
set_option linter.unusedVariables false

theorem within_short {Z K : List Bs} (h : K ≠ []) : withinL Z (K ++ Z) = false := by
  rcases hw : withinL Z (K ++ Z) with _ | _
  · rfl
  · have h1 := within_le hw
    have h2 : 0 < K.length := by rcases K with _ | _; exact absurd rfl h; simp
    rw [List.length_append] at h1
    omega
theorem within_glued {m z0 : Bs} {Z' : List Bs} (h : m ≠ []) : withinL ((m ++ z0) :: Z') (z0 :: Z') = false := by
  rcases hw : withinL ((m ++ z0) :: Z') (z0 :: Z') with _ | _
  · rfl
  · unfold withinL at hw
    rw [Bool.and_eq_true, decide_eq_true_iff, decide_eq_true_iff] at hw
    have h1 := hw.2
    simp at h1
    have h2 := congrArg List.length h1
    rw [lower_length, lower_length, List.length_append] at h2
    exact absurd (List.eq_nil_of_length_eq_zero (by omega)) h
theorem within_tell {L M : List Bs} {v : Bool} (h1 : okL L) (h2 : okL M) (l1 : (wire L).length ≤ 255) (l2 : (wire M).length ≤ 255) (h : withinL L M = v) : Tell 23 #[.string (str (wire L)), .string (str (wire M))] (.bool v) :=
  fun W => by have := within_in (wire L) (wire M) W (by omega) (by omega); rwa [within_wire h1 h2 l1 l2, h] at this
theorem wire_suffix {K L : List Bs} : (wire L).length ≤ (wire (K ++ L)).length := by rw [wire_append]; simp
theorem okL_suffix {K L : List Bs} (h : okL (K ++ L)) : okL L := fun s hs => h s (by simp [hs])

theorem zones_walk {A B : Option Addr} {c d : Nat} {K Z : List Bs} (t : ByteArray) (w : World) (hK : RdT w A c K) (hZ : RdT w B d Z) (ht : t.size ≤ maxLen) :
    Calls Try.prog 4 #[.slice A K.length c, .slice B Z.length d, .string t] w fun e w' => e = .returned (.bool true) ∧ Below w.heap.size w w' := by
  have t9 : t.size ≤ 9223372036854775807 := by unfold maxLen at ht; omega
  have k9 := hK.1.n_le
  have z9 := hZ.1.n_le
  by_cases h1 : 10 < K.length
  · exact zones_early1 w k9 z9 t9 h1
  by_cases h2 : 10 < Z.length
  · exact zones_early2 w k9 z9 t9 (by omega) h2
  by_cases h3 : 60 < t.size
  · exact zones_early3 w k9 z9 t9 (by omega) (by omega) h3
  have L1 : ∀ W, Ext w W → Calls Try.prog 9 #[.slice A K.length c] W fun e w' => e = .returned (.bool (longS K)) ∧ Ext W w' := fun W hW => long_in ⟨hK.1.ext hW, hK.2⟩
  have L2 : ∀ W, Ext w W → Calls Try.prog 9 #[.slice B Z.length d] W fun e w' => e = .returned (.bool (longS Z)) ∧ Ext W w' := fun W hW => long_in ⟨hZ.1.ext hW, hZ.2⟩
  by_cases h4 : longS K = true
  · rw [h4] at L1
    exact zones_early4 w k9 z9 t9 (by omega) (by omega) (by omega) L1
  have h4' : longS K = false := by simpa using h4
  rw [h4'] at L1
  by_cases h5 : longS Z = true
  · rw [h5] at L2
    exact zones_early5 w k9 z9 t9 (by omega) (by omega) (by omega) L1 L2
  have h5' : longS Z = false := by simpa using h5
  rw [h5'] at L2
  have G : ZonF w A B c d K Z t (str (joinS Z).1) (str (joinS (K ++ Z)).1) (joinS Z).2 (joinS (K ++ Z)).2 := {
    k10 := by omega
    z10 := by omega
    m60 := by omega
    l1 := L1
    l2 := L2
    jz := fun W hW => join_in (hZ.1.ext hW) (by omega)
    cp := fun W hW => copy_texts (hK.1.ext hW) (by omega)
    jn := fun W A' c' hr => by
      rw [← tvs_append, ← List.length_append] at hr
      have := join_in (L := K ++ Z) hr (by rw [List.length_append]; omega)
      rwa [List.length_append] at this
    rz := fun W hW => hZ.1.ext hW }
  by_cases hE : (joinS Z).2 = 0
  · rw [hE] at G
    by_cases hF : (joinS (K ++ Z)).2 = 0
    · rw [hF] at G
      obtain ⟨okZ, lZ, eZ⟩ := join_ok hE
      obtain ⟨okKZ, lKZ, eKZ⟩ := join_ok hF
      rw [eZ, eKZ] at G
      have H : ZonG (str (wire Z)) (str (wire (K ++ Z))) ((K.length : Int) == 0) := {
        nz := within_tell okKZ okZ lKZ lZ (within_append K Z)
        zn := within_tell okZ okKZ lZ lKZ (by
          by_cases hk : K = []
          · subst hk; exact within_refl Z
          · rw [within_short hk]
            have : 0 < K.length := by rcases K with _ | _; exact absurd rfl hk; simp
            symm; rw [beq_eq_false_iff_ne]; omega) }
      by_cases hz0 : Z.length = 0
      · exact zones_none w G H rfl hz0
      by_cases hm : t.toList = []
      · exact zones_empty w G H rfl (by omega) hm
      have hs0 : (Z.getD 0 []).length ≤ 100 := by
        have hzl : 0 < Z.length := by omega
        exact long_mem h5' _ (by rw [List.getD_eq_getElem?_getD, List.getElem?_eq_getElem hzl]; exact List.getElem_mem _)
      by_cases hs : 63 < t.size + (Z.getD 0 []).length
      · exact zones_big w G H rfl (by omega) hm hs hs0
      rcases Z with _ | ⟨z0, Z'⟩
      · exact absurd rfl hz0
      have etm : t = str t.data.toList := (str_of t).symm
      have htl : t.data.toList ≠ [] := by rw [← ByteArray.toList_eq]; exact hm
      have okZ' : okL Z' := fun s hs => okZ s (by simp [hs])
      have lZ' : (wire Z').length ≤ 255 := Nat.le_trans (wire_suffix (K := [z0])) lZ
      have J : ZonH (str ((z0 :: Z').getD 0 [])) Z'.length ((z0 :: Z').drop 1) t (str (wire (z0 :: Z'))) (str (joinS ((t.data.toList ++ z0) :: Z')).1) (str (wire Z')) (joinS ((t.data.toList ++ z0) :: Z')).2 := {
        jg := fun W A' c' hr => by
          have e : ([Value.string (t ++ str z0)] ++ tvs Z') = (((t.data.toList ++ z0) :: Z').map strV) := by
            rw [List.map_cons]
            show Value.string (t ++ str z0) :: tvs Z' = Value.string (str (t.data.toList ++ z0)) :: tvs Z'
            rw [← str_append, str_of]
          have hr2 : RdG W 1 A' (1 + Z'.length) c' ([Value.string (t ++ str z0)] ++ tvs Z') := hr
          rw [e, Nat.add_comm 1] at hr2
          have := join_in (L := (t.data.toList ++ z0) :: Z') hr2 (by simp at h2 ⊢; omega)
          rw [List.length_cons, Nat.add_comm _ 1] at this
          exact this
        par := fun W => by
          have := parent_in (wire (z0 :: Z')) W (by omega)
          rwa [parent_some (labels_ok (labS_wire okZ) lZ)] at this }
      have hzl : (z0 :: Z').length = 1 + Z'.length := by simp; omega
      by_cases hh : (joinS ((t.data.toList ++ z0) :: Z')).2 = 0
      · rw [hh] at J
        obtain ⟨okG, lG, eG⟩ := join_ok hh
        rw [eG] at J
        have I : ZonI (str (wire (z0 :: Z'))) (str (wire (K ++ z0 :: Z'))) (str (wire ((t.data.toList ++ z0) :: Z'))) (str (wire Z')) := {
          gz := within_tell okG okZ lG lZ (within_glued htl)
          gp := within_tell okG okZ' lG lZ' (within_append [t.data.toList ++ z0] Z')
          np := within_tell okKZ okZ' lKZ lZ' (by have := within_append (K ++ [z0]) Z'; simpa using this) }
        by_cases hm0 : Z'.length = 0
        · exact zones_full_one w G H rfl hzl hm (by omega) J hm0 I
        · exact zones_full_more w G H rfl hzl hm (by omega) J hm0 I
      · by_cases hm0 : Z'.length = 0
        · exact zones_wrong_one w G H rfl hzl hm (by omega) J hm0 hh
        · exact zones_wrong_more w G H rfl hzl hm (by omega) J hm0 hh
    · exact zones_badn w G hF
  · exact zones_badz w G hE
end Go.Proofs.Ytcgcadhnecakaaa

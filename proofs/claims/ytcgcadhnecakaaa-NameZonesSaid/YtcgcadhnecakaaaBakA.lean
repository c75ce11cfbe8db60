/- Names, plainly: the text of a name is read as it; what is read is a name. -/
import Derived.Test.YtcgcadhnecakaaaNamY
import Derived.Test.YtcgcadhnecakaaaNamR
import Derived.Test.YtcgcadhnecakaaaParC
namespace Go.Proofs.Ytcgcadhnecakaaa
open Go.BK Go.RowKit Go.BK.NM
set_option linter.unusedVariables false

theorem escS_err {r : Bs} {p : Nat} {e : Int} {q : Nat} (h : escS r p = .error (e, q)) : e ≠ 0 := by
  unfold escS at h
  rcases r with _ | ⟨c, r⟩
  · cases h; decide
  · simp only at h
    split at h
    · rcases r with _ | ⟨d, _ | ⟨f, r2⟩⟩
      · cases h; decide
      · cases h; decide
      · simp only at h
        split at h
        · split at h
          · cases h; decide
          · cases h
        · cases h; decide
    · split at h
      · cases h
      · cases h; decide
theorem more_err {c : UInt8} {x : Except Flt (Bs × Nat)} {f : Flt} (h : more c x = .error f) : x = .error f := by
  rcases x with g | ⟨_, _⟩
  · exact h
  · cases h
theorem labG_err : ∀ (r : Bs) (p : Nat) (e : Int) (q : Nat), labG r p = .error (e, q) → e ≠ 0 := by
  intro r
  induction hk : r.length using Nat.strongRecOn generalizing r with
  | _ k ih =>
    intro p e q h
    rcases r with _ | ⟨c, r⟩
    · cases h
    · subst hk
      by_cases h1 : c = 46
      · subst h1; rw [labG_dot] at h; cases h
      · by_cases h2 : vis c = true
        · by_cases h3 : c = 92
          · subst h3
            rw [labG_esc] at h
            rcases hE : escS r p with ⟨e', q'⟩ | ⟨x, k⟩
            · rw [hE] at h
              cases h
              exact escS_err hE
            · rw [hE] at h
              exact ih _ (by simp; omega) _ rfl _ _ _ (more_err h)
          · rw [labG_one r p h2 h1 h3] at h
            exact ih r.length (by simp) r rfl _ _ _ (more_err h)
        · rw [labG_bad r p (by simpa using h2)] at h
          cases h; decide
theorem parG_err : ∀ (n : Nat) (r : Bs) (p : Nat) (e : Int) (q : Nat), parG n r p = .error (e, q) → e ≠ 0 := by
  intro n
  induction n with
  | zero => intro r p e q h; cases h
  | succ n ih =>
    intro r p e q h
    rcases r with _ | ⟨c, r⟩
    · cases h
    · by_cases h1 : c = 46
      · subst h1; rw [parG_dot] at h; cases h; decide
      · rw [parG_go h1] at h
        rcases hG : labG (c :: r) p with ⟨e', q'⟩ | ⟨b, e2⟩
        · rw [hG] at h
          cases h
          exact labG_err _ _ _ _ hG
        · rw [hG] at h
          simp only at h
          split at h
          · cases h; decide
          · rcases hP : parG n ((c :: r).drop (e2 - p + 1)) (e2 + 1) with ⟨e3, q3⟩ | L
            · rw [hP] at h
              cases h
              exact ih _ _ _ _ hP
            · rw [hP] at h
              cases h

theorem join_ok {L : List Bs} (h : (joinS L).2 = 0) : okL L ∧ (wire L).length ≤ 255 ∧ (joinS L).1 = wire L := by
  unfold joinS at h ⊢
  by_cases h1 : joinE L = 0
  · rw [if_pos h1] at h ⊢
    by_cases h2 : 255 < (wire L).length
    · rw [if_pos h2] at h; simp at h
    · rw [if_neg h2]; exact ⟨joinE_ok.1 h1, by omega, rfl⟩
  · rw [if_neg h1] at h; exact absurd h h1
theorem join_of {L : List Bs} (h : okL L) (hl : (wire L).length ≤ 255) : joinS L = (wire L, 0) := by
  unfold joinS; rw [if_pos (joinE_ok.2 h), if_neg (by omega)]
theorem check_of {L : List Bs} (h : okL L) (hl : (wire L).length ≤ 255) : checkS (wire L) = 0 := by
  unfold checkS; rw [labels_ok (labS_wire h) hl]

/-- What is read is a name, or there is a fault within the text. -/
theorem parse_cases (t : Bs) : ((parseS t).2.1 ≠ 0 ∧ (parseS t).1 = [] ∧ (parseS t).2.2 ≤ t.length) ∨ (∃ L, parseS t = (wire L, (0, 0)) ∧ okL L ∧ (wire L).length ≤ 255) := by
  unfold parseS
  by_cases h0 : t = []
  · rw [if_pos h0]; left; exact ⟨by decide, rfl, Nat.zero_le _⟩
  · rw [if_neg h0]
    by_cases h1 : t = [46]
    · rw [if_pos h1]; right; refine ⟨[], rfl, ?_, by decide⟩; intro s hs; cases hs
    · rw [if_neg h1]
      rcases hG : parG t.length t 0 with ⟨e, q⟩ | L
      · left
        have := parG_le _ _ _ _ _ hG
        exact ⟨parG_err _ _ _ _ _ hG, rfl, by simpa using this⟩
      · simp only
        by_cases hj : (joinS L).2 = 0
        · rw [if_pos hj]
          obtain ⟨h2, h3, h4⟩ := join_ok hj
          right; exact ⟨L, by rw [h4], h2, h3⟩
        · rw [if_neg hj]; left; exact ⟨hj, rfl, Nat.zero_le _⟩

theorem first_ne {t : Bs} {s : Bs} {R : Bs} (h : 1 ≤ s.length) (e : t = labT s ++ R) : t ≠ [] ∧ t ≠ [46] := by
  obtain ⟨c, r, hc, hne⟩ := labT_head h
  rw [e, hc]
  exact ⟨by simp, fun e2 => by rw [List.cons_append] at e2; injection e2 with e3 _; exact hne e3⟩
theorem parse_of {t : Bs} {L : List Bs} (h0 : t ≠ [] ∧ t ≠ [46]) (hG : parG t.length t 0 = .ok L) (h : okL L) (hl : (wire L).length ≤ 255) : parseS t = (wire L, (0, 0)) := by
  unfold parseS
  rw [if_neg h0.1, if_neg h0.2, hG]
  simp only
  rw [join_of h hl]
  rfl
def tellT (L : List Bs) : Bs := if L = [] then [46] else lineT L
theorem text_of {L : List Bs} (h : okL L) (hl : (wire L).length ≤ 255) : textS (wire L) = (tellT L, 0) := by
  unfold textS tellT
  rw [labels_ok (labS_wire h) hl]
  simp only [if_true]
  by_cases h0 : L = []
  · rw [if_pos h0, if_pos h0]
  · rw [if_neg h0, if_neg h0]
theorem parse_tell {L : List Bs} (h : okL L) (hl : (wire L).length ≤ 255) : parseS (tellT L) = (wire L, (0, 0)) := by
  unfold tellT
  rcases L with _ | ⟨s, L⟩
  · rfl
  · rw [if_neg (by simp)]
    exact parse_of (first_ne (h s (by simp)).1 (lineT_cons s L)) (parG_line _ _ _ h (by have := (lineT_len (s :: L)).1; exact this)) h hl
theorem snoc_of {L : List Bs} (h : L ≠ []) : ∃ K z, L = K ++ [z] := ⟨L.dropLast, L.getLast h, (List.dropLast_concat_getLast h).symm⟩
theorem parse_tell' {L : List Bs} (h0 : L ≠ []) (h : okL L) (hl : (wire L).length ≤ 255) : ∃ t, tellT L = t ++ [46] ∧ parseS t = (wire L, (0, 0)) := by
  obtain ⟨K, z, rfl⟩ := snoc_of h0
  refine ⟨lineT K ++ labT z, ?_, ?_⟩
  · unfold tellT; rw [if_neg h0, lineT_snoc]
  · have hz := h z (by simp)
    have hne : lineT K ++ labT z ≠ [] ∧ lineT K ++ labT z ≠ [46] := by
      rcases K with _ | ⟨s, K⟩
      · exact first_ne (R := []) hz.1 (by simp [lineT])
      · exact first_ne (R := 46 :: (lineT K ++ labT z)) (h s (by simp)).1 (by rw [lineT_cons]; simp)
    refine parse_of hne (parG_line' K z _ 0 h ?_) h hl
    have a1 := (lineT_len K).1
    have a2 := (labT_len z).1
    rw [List.length_append]
    omega
theorem tell_ends (L : List Bs) : ∃ t, tellT L = t ++ [46] := by
  unfold tellT
  by_cases h0 : L = []
  · rw [if_pos h0]; exact ⟨[], rfl⟩
  · rw [if_neg h0]
    obtain ⟨K, z, rfl⟩ := snoc_of h0
    exact ⟨lineT K ++ labT z, lineT_snoc K z⟩
theorem tell_len {L : List Bs} (hl : (wire L).length ≤ 255) : (tellT L).length ≤ 1020 := by
  unfold tellT
  split
  · simp
  · have := (lineT_len L).2; omega
end Go.Proofs.Ytcgcadhnecakaaa

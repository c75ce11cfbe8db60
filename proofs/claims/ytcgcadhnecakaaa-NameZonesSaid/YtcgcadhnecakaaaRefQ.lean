/- The document's Parent. -/
import Derived.Test.YtcgcadhnecakaaaRefJ
import Derived.Test.YtcgcadhnecakaaaNamP
namespace Go.Proofs.Ytcgcadhnecakaaa
open Go.BK Go.RowKit Go.BK.NM
set_option linter.unusedVariables false

theorem join_tail {s : Bs} {L : List Bs} (h : okL (s :: L)) (hl : (wire (s :: L)).length ≤ 255) : joinS L = (wire L, 0) := by
  have h1 : okL L := fun x hx => h x (by simp [hx])
  have h2 := wire_cons s L
  unfold joinS
  rw [if_pos (joinE_ok.2 h1), if_neg]
  rw [h2] at hl
  simp at hl
  omega

set_option maxHeartbeats 2000000 in
set_option maxRecDepth 100000 in
theorem ref_parent (n : Bs) (w : World) (hn : n.length ≤ 2000000) :
    Calls Try.prog 25 #[.string (str n)] w fun e w' => e = .returned (.tuple #[.string (str (parentS n).1), .bool (parentS n).2]) ∧ Ext w w' := by
  have CL := hid (ref_labels n w hn)
  have hcase : (∃ e, labelsS n = ([], e) ∧ parentS n = ([], false)) ∨ ∃ s L, labelsS n = (s :: L, 0) ∧ okL (s :: L) ∧ (wire (s :: L)).length ≤ 255 ∧ parentS n = (wire L, true) := by
    rcases labels_cases n with ⟨hl, _⟩ | ⟨L, _, _, hl⟩ | ⟨L, hL, hlen, hl⟩
    · exact .inl ⟨4, hl, parent_none (by rw [hl])⟩
    · exact .inl ⟨3, hl, parent_none (by rw [hl])⟩
    · obtain ⟨rfl, hok⟩ := labS_some hL
      cases L with
      | nil => exact .inl ⟨0, hl, parent_none (by rw [hl])⟩
      | cons s L => exact .inr ⟨s, L, hl, hok, hlen, parent_some hl⟩
  rcases hcase with ⟨e, h1, h2⟩ | ⟨s, L, h1, h3, h4, h2⟩
  · rw [h2]
    rw [h1] at CL
    clear h1 h2
    simp only at CL
    by_cases he : e = 0
    · subst he
      go_enter Try.func25, Try.ntmps25
      go_wp2_with fail
      (with_reducible refine CL.out.mono ?_)
      rintro ee w1 ⟨A, c, rfl, ho, x⟩
      have X := hid x
      clear ho x
      go_wp2_with fail
      go_ret2
      exact ⟨rfl, X.out⟩
    · have z : (e != 0) = true := by simpa using he
      clear he
      go_enter Try.func25, Try.ntmps25
      go_wp2_with fail
      (with_reducible refine CL.out.mono ?_)
      rintro ee w1 ⟨A, c, rfl, ho, x⟩
      have X := hid x
      clear ho x
      go_wp2_with fail
      go_ret2
      exact ⟨rfl, X.out⟩
  · rw [h2]
    rw [h1] at CL
    have HJ := hid (join_tail h3 h4)
    have HO := hid h3
    clear h1 h2 h3 h4
    simp only at CL
    go_enter Try.func25, Try.ntmps25
    go_wp2_with fail
    (with_reducible refine CL.out.mono ?_)
    rintro ee w1 ⟨A, c, rfl, ho, x⟩
    have X := hid x
    have hr := OwnG.rd ho
    have hcap := hr.cap
    have hc9 := hr.c_le
    have hn9 := hr.n_le
    obtain ⟨g, o, rfl, _, _⟩ := hr.2.2.2 (by simp)
    by_cases hc1 : c = 1
    · have hL0 : L.length = 0 := by have := hcap.1; simp at this; omega
      subst hc1
      have hcut := RdG.cut hr (i := 1) (j := (s :: L).length) (by simp) (Nat.le_refl _) (A' := some ⟨g, o, none⟩) (fun h => by simp at h; omega)
      have e1 : (s :: L).length - 1 = L.length := by simp
      have e2 : (((s :: L).map strV).take ((s :: L).length * 1)).drop (1 * 1) = L.map strV := by
        rw [Nat.mul_one, List.take_of_length_le (by simp)]; rfl
      rw [e1, e2] at hcut
      have hsl : ∀ t ∈ L, t.length ≤ 2000000 := fun t ht => by have := HO.out t (by simp [ht]); omega
      have CJ := hid (ref_join hcut hsl)
      rw [HJ.out] at CJ
      simp only at CJ
      simp only [hL0, Nat.sub_self] at CJ
      clear ho x hr hcut e2 hsl e1
      simp only [List.length_cons] at hcap hc9 hn9 ⊢
      go_wp2_with fail
      (with_reducible refine CJ.out.mono ?_)
      rintro ee w2 ⟨rfl, x2⟩
      have X2 := hid (ext_trans X.out x2)
      clear x2
      go_wp2_with fail
      go_ret2
      exact ⟨rfl, X2.out⟩
    · have hc2 : ¬ c - 1 = 0 := by have := hcap.1; simp at this; omega
      have hc3 : 1 < c := by omega
      have hcut := RdG.cut hr (i := 1) (j := (s :: L).length) (by simp) (Nat.le_refl _) (A' := some ⟨g, o + 1, none⟩) (fun _ => by simp [Addr.add])
      have e1 : (s :: L).length - 1 = L.length := by simp
      have e2 : (((s :: L).map strV).take ((s :: L).length * 1)).drop (1 * 1) = L.map strV := by
        rw [Nat.mul_one, List.take_of_length_le (by simp)]; rfl
      rw [e1, e2] at hcut
      have hsl : ∀ t ∈ L, t.length ≤ 2000000 := fun t ht => by have := HO.out t (by simp [ht]); omega
      have CJ := hid (ref_join hcut hsl)
      rw [HJ.out] at CJ
      simp only at CJ
      clear ho x hr hcut e2 hsl e1
      simp only [List.length_cons] at hcap hc9 hn9 ⊢
      go_wp2_with fail
      (with_reducible refine CJ.out.mono ?_)
      rintro ee w2 ⟨rfl, x2⟩
      have X2 := hid (ext_trans X.out x2)
      clear x2
      go_wp2_with fail
      go_ret2
      exact ⟨rfl, X2.out⟩
end Go.Proofs.Ytcgcadhnecakaaa

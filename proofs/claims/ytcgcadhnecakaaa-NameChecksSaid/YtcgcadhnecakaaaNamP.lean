/- name.Parent: what is behind a name's first label. -/
import Derived.Test.YtcgcadhnecakaaaLabC
import Derived.Deep.QuietTactic
import Derived.BigQuiet
namespace Go.Proofs.Ytcgcadhnecakaaa
open Go.BK Go.RowKit Go.BK.NM
set_option linter.unusedVariables false

def parentS (n : Bs) : Bs × Bool := match labelsS n with
  | (s :: L, _) => (wire L, true)
  | _ => ([], false)
theorem parent_none {n : Bs} (h : (labelsS n).1 = []) : parentS n = ([], false) := by
  unfold parentS
  obtain ⟨L, e, hL⟩ : ∃ L e, labelsS n = (L, e) := ⟨_, _, rfl⟩
  rw [hL] at h ⊢
  simp only at h
  subst h
  rfl
theorem parent_some {n s : Bs} {L : List Bs} {e : Int} (h : labelsS n = (s :: L, e)) : parentS n = (wire L, true) := by
  unfold parentS; rw [h]

set_option maxHeartbeats 2000000 in
set_option maxRecDepth 100000 in
theorem parent_in (n : Bs) (w : World) (hn : n.length ≤ 2000000) :
    Calls Try.prog 24 #[.string (str n)] w fun e w' => e = .returned (.tuple #[.string (str (parentS n).1), .bool (parentS n).2]) ∧ Ext w w' := by
  have C := hid (check_in n w hn)
  have hcase : (checkS n ≠ 0 ∧ parentS n = ([], false)) ∨ (checkS n = 0 ∧ n = [0] ∧ parentS n = ([], false)) ∨ (∃ s L, checkS n = 0 ∧ n = wire (s :: L) ∧ okL (s :: L) ∧ parentS n = (wire L, true)) := by
    rcases labels_cases n with ⟨hl, _⟩ | ⟨L, _, _, hl⟩ | ⟨L, hL, hlen, hl⟩
    · exact .inl ⟨by unfold checkS; rw [hl]; decide, parent_none (by rw [hl])⟩
    · exact .inl ⟨by unfold checkS; rw [hl]; decide, parent_none (by rw [hl])⟩
    · obtain ⟨rfl, hok⟩ := labS_some hL
      have h0 : checkS (wire L) = 0 := by unfold checkS; rw [hl]
      cases L with
      | nil => exact .inr (.inl ⟨h0, rfl, parent_none (by rw [hl])⟩)
      | cons s L => exact .inr (.inr ⟨s, L, h0, rfl, hok, parent_some hl⟩)
  obtain ⟨t, ht⟩ : ∃ t, t = str n := ⟨_, rfl⟩
  rcases hcase with ⟨h1, h2⟩ | ⟨h1, rfl, h2⟩ | ⟨s, L, h1, rfl, hok, h2⟩
  · rw [h2]
    have z1 : (checkS n != 0) = true := by simpa using h1
    rw [← ht] at C ⊢
    generalize checkS n = E at *
    clear ht h1 h2
    go_enter Try.func24, Try.ntmps24
    go_wp2_with fail
    (with_reducible refine C.out.mono ?_)
    rintro e w1 ⟨rfl, x⟩
    go_wp2_with fail
    go_ret2
    exact ⟨rfl, x⟩
  · rw [h2]
    rw [h1] at C
    have z2 : (t.toList == [0]) = true := by rw [ht, str_toList]; rfl
    rw [← ht] at C ⊢
    clear ht h1 h2
    go_enter Try.func24, Try.ntmps24
    go_wp2_with fail
    (with_reducible refine C.out.mono ?_)
    rintro e w1 ⟨rfl, x⟩
    go_wp2_with fail
    go_ret2
    exact ⟨rfl, x⟩
  · rw [h2]
    rw [h1] at C
    have hs0 := hok s (by simp)
    obtain ⟨y1, y2⟩ := size_of_label hs0
    obtain ⟨c0, hc0⟩ : ∃ c0, c0 = UInt8.ofNat s.length := ⟨_, rfl⟩
    rw [← hc0] at y1 y2
    have hwc : wire (s :: L) = c0 :: s ++ wire L := by rw [wire_cons, hc0]
    have hwl : 1 ≤ (wire L).length := by unfold wire; simp
    have htz : t.size = 1 + s.length + (wire L).length := by rw [ht, str_size, hwc]; simp; omega
    have hss : 0 < t.size := by omega
    have h0s : t[0]'hss = c0 := by subst ht; simp [hwc, str]; rfl
    have he2 : t.extract (1 + c0.toNat) t.size = str (wire L) := by
      rw [htz, ht, hwc, y1]; apply ByteArray.ext; simp [str, Nat.add_comm 1]
    have z2 : (t.toList == [0]) = false := by
      rw [ht, str_toList, hwc, beq_eq_false_iff_ne]
      intro e
      have := congrArg List.length e
      simp only [List.cons_append, List.length_cons, List.length_append, List.length_nil] at this
      omega
    have c63 : c0.toNat ≤ 63 := by omega
    have cb1 : 1 + c0.toNat ≤ t.size := by omega
    have w2 : (1 + (c0.toNat : Int)).toNat = 1 + c0.toNat := by omega
    rw [← ht] at C ⊢
    clear ht h1 h2 htz hwc hc0 y1 y2 hok hn hs0 hwl
    go_enter Try.func24, Try.ntmps24
    go_wp2_with fail
    (with_reducible refine C.out.mono ?_)
    rintro e w1 ⟨rfl, x⟩
    go_wp2_with fail
    go_ret2
    exact ⟨rfl, x⟩
end Go.Proofs.Ytcgcadhnecakaaa

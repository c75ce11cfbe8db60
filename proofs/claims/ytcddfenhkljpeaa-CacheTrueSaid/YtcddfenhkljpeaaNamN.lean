/- name.Same, and the document's. -/
import Derived.Test.YtcddfenhkljpeaaNamL
import Derived.Test.YtcddfenhkljpeaaLabD
import Derived.Test.YtcddfenhkljpeaaRefA
import Derived.Deep.QuietTactic
import Derived.BigQuiet
namespace Go.Proofs.Ytcddfenhkljpeaa
open Go.BK Go.RowKit Go.BK.NM
set_option linter.unusedVariables false

def sameB (a b : Bs) : Bool := decide (checkS a = 0 ∧ checkS b = 0 ∧ lower a = lower b)

set_option maxHeartbeats 2000000 in
theorem same_in (a b : Bs) (w : World) (ha : a.length ≤ 2000000) (hb : b.length ≤ 2000000) :
    Calls Try.prog 56 #[.string (str a), .string (str b)] w fun e w' => e = .returned (.bool (sameB a b)) ∧ Ext w w' := by
  have CA := hid (fun W => check_in a W ha)
  have CB := hid (fun W => check_in b W hb)
  have LA := hid (fun W => lower_in a W ha)
  have LB := hid (fun W => lower_in b W hb)
  obtain ⟨V, hV⟩ : ∃ V, V = sameB a b := ⟨_, rfl⟩
  rw [← hV]
  have HV := hid hV
  clear hV
  by_cases h1 : checkS a = 0
  · rw [h1] at CA
    by_cases h2 : checkS b = 0
    · rw [h2] at CB
      obtain ⟨sa, hsa⟩ : ∃ s, s = str (lower a) := ⟨_, rfl⟩
      obtain ⟨sb, hsb⟩ : ∃ s, s = str (lower b) := ⟨_, rfl⟩
      rw [← hsa] at LA
      rw [← hsb] at LB
      have hz : (sa.toList == sb.toList) = V := by
        rw [hsa, hsb, str_toList, str_toList, HV.out]
        unfold sameB
        by_cases h3 : lower a = lower b
        · simp [h1, h2, h3]
        · simp [h1, h2, h3]
      clear h1 h2 hsa hsb HV
      go_enter Try.func56, Try.ntmps56
      go_wp2_with fail
      (with_reducible refine (CA.out _).mono ?_)
      rintro e w1 ⟨rfl, x1⟩
      have X1 := hid x1
      go_wp2_with fail
      (with_reducible refine (CB.out _).mono ?_)
      rintro e w2 ⟨rfl, x2⟩
      have X2 := hid (ext_trans X1.out x2)
      go_wp2_with fail
      (with_reducible refine (LA.out _).mono ?_)
      rintro e w3 ⟨rfl, x3⟩
      have X3 := hid (ext_trans X2.out x3)
      go_wp2_with fail
      (with_reducible refine (LB.out _).mono ?_)
      rintro e w4 ⟨rfl, x4⟩
      have X4 := hid (ext_trans X3.out x4)
      clear x1 x2 x3 x4
      go_wp2_with fail
      go_ret
      exact ⟨rfl, X4.out⟩
    · obtain ⟨E, hE⟩ : ∃ E, checkS b = E := ⟨_, rfl⟩
      obtain rfl : V = false := by rw [HV.out]; exact decide_eq_false (fun h => h2 h.2.1)
      rw [hE] at CB h2
      have z : (E == 0) = false := by simpa using h2
      clear h1 h2 hE HV
      go_enter Try.func56, Try.ntmps56
      go_wp2_with fail
      (with_reducible refine (CA.out _).mono ?_)
      rintro e w1 ⟨rfl, x1⟩
      have X1 := hid x1
      go_wp2_with fail
      (with_reducible refine (CB.out _).mono ?_)
      rintro e w2 ⟨rfl, x2⟩
      have X2 := hid (ext_trans X1.out x2)
      clear x1 x2
      go_wp2_with fail
      go_ret
      exact ⟨rfl, X2.out⟩
  · obtain ⟨E, hE⟩ : ∃ E, checkS a = E := ⟨_, rfl⟩
    obtain rfl : V = false := by rw [HV.out]; exact decide_eq_false (fun h => h1 h.1)
    rw [hE] at CA h1
    have z : (E == 0) = false := by simpa using h1
    clear h1 hE HV
    go_enter Try.func56, Try.ntmps56
    go_wp2_with fail
    (with_reducible refine (CA.out _).mono ?_)
    rintro e w1 ⟨rfl, x1⟩
    have X1 := hid x1
    clear x1
    go_wp2_with fail
    go_ret
    exact ⟨rfl, X1.out⟩
end Go.Proofs.Ytcddfenhkljpeaa

/- The law NameCompares: the walk. -/
import Derived.Test.YtcgcadhnecakaaaNamX
namespace Go.Proofs.Ytcgcadhnecakaaa
open Go.BK Go.RowKit Go.BK.NM
set_option linter.unusedVariables false

set_option maxHeartbeats 4000000 in
set_option maxRecDepth 100000 in
theorem compares_small (a b : Bs) (w : World) (ha : a.length ≤ 400) (hb : b.length ≤ 400) :
    Calls Try.prog 5 #[.string (str a), .string (str b)] w fun e w' => e = .returned (.bool true) ∧ Below w.heap.size w w' := by
  have P1 := hid (fun W => parent_in a W (by omega))
  have P2 := hid (fun W => ref_parent a W (by omega))
  have L1 := hid (fun W => lower_in a W (by omega))
  have L2 := hid (fun W => ref_lower a W (by omega))
  have S1 := hid (fun W => same_in a b W (by omega) (by omega))
  have S2 := hid (fun W => ref_same a b W (by omega) (by omega))
  have W1 := hid (fun W => within_in a b W (by omega) (by omega))
  have W2 := hid (fun W => ref_within a b W (by omega) (by omega))
  have C1 := hid (fun W => compare_in a b W (by omega) (by omega))
  have C2 := hid (fun W => ref_compare a b W (by omega) (by omega))
  generalize parentS a = p at *
  generalize sameB a b = s at *
  generalize withinS a b = v at *
  generalize compareS a b = c at *
  obtain ⟨p1, p2⟩ := p
  obtain ⟨q, hq⟩ : ∃ q, q = str p1 := ⟨_, rfl⟩
  obtain ⟨l, hl⟩ : ∃ q, q = str (lower a) := ⟨_, rfl⟩
  obtain ⟨ta, hta⟩ : ∃ q, q = str a := ⟨_, rfl⟩
  obtain ⟨tb, htb⟩ : ∃ q, q = str b := ⟨_, rfl⟩
  have ka : ta.size ≤ 400 := by rw [hta, str_size]; exact ha
  have kb : tb.size ≤ 400 := by rw [htb, str_size]; exact hb
  have z1 : decide ((400 : Int) < (ta.size : Int)) = false := by rw [decide_eq_false_iff_not]; omega
  have z1' : decide (400 < ta.size) = false := by rw [decide_eq_false_iff_not]; omega
  have z2 : decide ((400 : Int) < (tb.size : Int)) = false := by rw [decide_eq_false_iff_not]; omega
  have z2' : decide (400 < tb.size) = false := by rw [decide_eq_false_iff_not]; omega
  simp only at P1 P2
  rw [← hta] at P1 P2 L1 L2 S1 S2 W1 W2 C1 C2 ⊢
  rw [← htb] at S1 S2 W1 W2 C1 C2 ⊢
  rw [← hq] at P1 P2
  rw [← hl] at L1 L2
  have e1 : (l.toList == l.toList) = true := by simp
  have e2 : (q.toList == q.toList) = true := by simp
  have e3 : (s == s) = true := by simp
  have e4 : (v == v) = true := by simp
  have e5 : (p2 == p2) = true := by simp
  have e6 : (c == c) = true := by simp
  clear hq hl hta htb ha hb
  go_enter Try.func5, Try.ntmps5
  go_wp2_with fail
  (with_reducible refine (P1.out _).mono ?_)
  rintro e w1 ⟨rfl, x⟩
  have X := hid x
  clear x
  go_wp2_with fail
  (with_reducible refine (P2.out _).mono ?_)
  rintro e w2 ⟨rfl, x⟩
  have X := hid (ext_trans X.out x)
  clear x
  go_wp2_with fail
  (with_reducible refine (L1.out _).mono ?_)
  rintro e w2 ⟨rfl, x⟩
  have X := hid (ext_trans X.out x)
  clear x
  go_wp2_with fail
  (with_reducible refine (L2.out _).mono ?_)
  rintro e w2 ⟨rfl, x⟩
  have X := hid (ext_trans X.out x)
  clear x
  go_wp2_with fail
  (with_reducible refine (S1.out _).mono ?_)
  rintro e w2 ⟨rfl, x⟩
  have X := hid (ext_trans X.out x)
  clear x
  go_wp2_with fail
  (with_reducible refine (S2.out _).mono ?_)
  rintro e w2 ⟨rfl, x⟩
  have X := hid (ext_trans X.out x)
  clear x
  go_wp2_with fail
  (with_reducible refine (W1.out _).mono ?_)
  rintro e w2 ⟨rfl, x⟩
  have X := hid (ext_trans X.out x)
  clear x
  go_wp2_with fail
  (with_reducible refine (W2.out _).mono ?_)
  rintro e w2 ⟨rfl, x⟩
  have X := hid (ext_trans X.out x)
  clear x
  go_wp2_with fail
  (with_reducible refine (C1.out _).mono ?_)
  rintro e w2 ⟨rfl, x⟩
  have X := hid (ext_trans X.out x)
  clear x
  go_wp2_with fail
  (with_reducible refine (C2.out _).mono ?_)
  rintro e w2 ⟨rfl, x⟩
  have X := hid (ext_trans X.out x)
  clear x
  go_wp2_with fail
  (with_reducible refine (awake_in _).mono ?_)
  rintro e w2 ⟨rfl, x⟩
  have X := hid (ext_trans X.out x)
  clear x
  go_wp2_with fail
  go_ret
  exact ⟨rfl, X.out⟩

theorem compares_walk (a b : ByteArray) (w : World) (ha : a.size ≤ maxLen) (hb : b.size ≤ maxLen) :
    Calls Try.prog 5 #[.string a, .string b] w fun e w' => e = .returned (.bool true) ∧ Below w.heap.size w w' := by
  have a9 : a.size ≤ 9223372036854775807 := by unfold maxLen at ha; omega
  have b9 : b.size ≤ 9223372036854775807 := by unfold maxLen at hb; omega
  by_cases h1 : 400 < a.size
  · have z1 : decide ((400 : Int) < (a.size : Int)) = true := by rw [decide_eq_true_iff]; omega
    have z1' : decide (400 < a.size) = true := by rw [decide_eq_true_iff]; omega
    clear ha hb
    go_enter Try.func5, Try.ntmps5
    go_wp2_with fail
    go_ret
    exact ⟨rfl, ext_refl _⟩
  · by_cases h2 : 400 < b.size
    · have z1 : decide ((400 : Int) < (a.size : Int)) = false := by rw [decide_eq_false_iff_not]; omega
      have z1' : decide (400 < a.size) = false := by rw [decide_eq_false_iff_not]; omega
      have z2 : decide ((400 : Int) < (b.size : Int)) = true := by rw [decide_eq_true_iff]; omega
      have z2' : decide (400 < b.size) = true := by rw [decide_eq_true_iff]; omega
      clear ha hb h1
      go_enter Try.func5, Try.ntmps5
      go_wp2_with fail
      go_ret
      exact ⟨rfl, ext_refl _⟩
    · have := compares_small a.data.toList b.data.toList w (by rw [len_toList]; omega) (by rw [len_toList]; omega)
      rwa [str_of, str_of] at this
end Go.Proofs.Ytcgcadhnecakaaa

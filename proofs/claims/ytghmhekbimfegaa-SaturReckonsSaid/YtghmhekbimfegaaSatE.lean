/- awake; what counts come to; which part of a count is told. -/
import Derived.Test.YtghmhekbimfegaaSatC
namespace Go.Proofs.Ytghmhekbimfegaa
open Go.BK Go.RowKit
set_option linter.unusedVariables false

theorem awake_yes (w : World) : Calls Try.prog 19 #[] w fun e w' => e = .returned (.bool true) ∧ ∃ m, w' = w.drewN m := by
  have c1 := hid (fun W => add_any 9007199254740992 1 W)
  have c2 := hid (fun W => sub_any 3 5 W)
  have c3 := hid (fun W => mul_any 3 4 W)
  have c4 := hid (fun W => div_any 7 2 W)
  rw [show addN (cutN 9007199254740992) (cutN 1) = 9007199254740992 from by decide +kernel] at c1
  rw [show cutN 3 - cutN 5 = 0 from by decide +kernel] at c2
  rw [show mulN (cutN 3) (cutN 4) = 12 from by decide +kernel] at c3
  rw [show divN (cutN 7) (cutN 2) = 3 from by decide +kernel] at c4
  go_enter Try.func19, Try.ntmps19
  go_wp2_with fail
  refine (c1.out _).mono ?_; rintro e wx ⟨rfl, rfl⟩
  go_wp2_with fail
  refine (c2.out _).mono ?_; rintro e wx ⟨rfl, rfl⟩
  go_wp2_with fail
  refine (c3.out _).mono ?_; rintro e wx ⟨rfl, mm, rfl⟩
  go_wp2_with fail
  refine (c4.out _).mono ?_; rintro e wx ⟨rfl, mm, rfl⟩
  go_wp2_with fail
  go_ret
  exact ⟨rfl, _, rfl⟩

theorem reckons_walk (a b : Int) (w : World) (ha : -9223372036854775808 ≤ a ∧ a ≤ 9223372036854775807) (hb : -9223372036854775808 ≤ b ∧ b ≤ 9223372036854775807) :
    Calls Try.prog 3 #[.int .i64 a, .int .i64 b] w fun e w' => e = .returned (.bool true) ∧ Below w.heap.size w w' := by
  have c1 := hid (fun W => cut_any a W)
  have d1 := hid (fun W => rcut_any a W)
  have c2 := hid (fun W => add_any a b W)
  have d2 := hid (fun W => radd_any a b W)
  have c3 := hid (fun W => sub_any a b W)
  have d3 := hid (fun W => rsub_any a b W)
  have c4 := hid (fun W => mul_any a b W)
  have d4 := hid (fun W => rmul_any a b W)
  have c5 := hid (fun W => div_any a b W)
  have d5 := hid (fun W => rdiv_any a b W)
  generalize addN (cutN a) (cutN b) = x2 at *
  generalize cutN a - cutN b = x3 at *
  generalize mulN (cutN a) (cutN b) = x4 at *
  generalize divN (cutN a) (cutN b) = x5 at *
  generalize cutN a = x1 at *
  go_enter Try.func3, Try.ntmps3
  go_wp2_with fail
  refine (c1.out _).mono ?_; rintro e wx ⟨rfl, rfl⟩
  go_wp2_with fail
  refine (d1.out _).mono ?_; rintro e wx ⟨rfl, rfl⟩
  go_wp2_with fail
  refine (c2.out _).mono ?_; rintro e wx ⟨rfl, rfl⟩
  go_wp2_with fail
  refine (d2.out _).mono ?_; rintro e wx ⟨rfl, rfl⟩
  go_wp2_with fail
  refine (c3.out _).mono ?_; rintro e wx ⟨rfl, rfl⟩
  go_wp2_with fail
  refine (d3.out _).mono ?_; rintro e wx ⟨rfl, rfl⟩
  go_wp2_with fail
  refine (c4.out _).mono ?_; rintro e wx ⟨rfl, mm, rfl⟩
  go_wp2_with fail
  refine (d4.out _).mono ?_; rintro e wx ⟨rfl, rfl⟩
  go_wp2_with fail
  refine (c5.out _).mono ?_; rintro e wx ⟨rfl, mm, rfl⟩
  go_wp2_with fail
  refine (d5.out _).mono ?_; rintro e wx ⟨rfl, rfl⟩
  go_wp2_with fail
  refine (awake_yes _).mono ?_; rintro e wx ⟨rfl, mm, rfl⟩
  go_wp2_with fail
  go_ret
  exact ⟨rfl, ext_drewN _ _⟩

theorem scales_walk (a b c : Int) (w : World) (ha : -9223372036854775808 ≤ a ∧ a ≤ 9223372036854775807) (hb : -9223372036854775808 ≤ b ∧ b ≤ 9223372036854775807) (hc : -9223372036854775808 ≤ c ∧ c ≤ 9223372036854775807) :
    Calls Try.prog 4 #[.int .i64 a, .int .i64 b, .int .i64 c] w fun e w' => e = .returned (.bool true) ∧ Below w.heap.size w w' := by
  have c1 := hid (fun W => scale_any a b c W)
  have d1 := hid (fun W => rscale_any a b c W)
  generalize scaleN (cutN a) (cutN b) (cutN c) = x1 at *
  go_enter Try.func4, Try.ntmps4
  go_wp2_with fail
  refine (c1.out _).mono ?_; rintro e wx ⟨rfl, mm, rfl⟩
  go_wp2_with fail
  refine (d1.out _).mono ?_; rintro e wx ⟨rfl, rfl⟩
  go_wp2_with fail
  refine (awake_yes _).mono ?_; rintro e wx ⟨rfl, mm, rfl⟩
  go_wp2_with fail
  go_ret
  exact ⟨rfl, ext_drewN _ _⟩

theorem scale_plain {x y d : Nat} (hx : x ≤ 67108864) (hy : y ≤ 67108864) (hd : 1 ≤ d) : scaleN x y d = x * y / d := by
  have h : x * y ≤ 67108864 * 67108864 := Nat.mul_le_mul hx hy
  have h2 := Nat.div_le_self (x * y) d
  have hSM : SM = 9007199254740992 := rfl
  unfold scaleN
  split
  · next h0 => rw [h0, Nat.zero_div]
  · rw [if_neg (by omega)]
    generalize x * y / d = v at *
    omega

set_option maxHeartbeats 1000000 in
theorem parts_walk (a b c : Int) (w : World) (ha : -9223372036854775808 ≤ a ∧ a ≤ 9223372036854775807) (hb : -9223372036854775808 ≤ b ∧ b ≤ 9223372036854775807) (hc : -9223372036854775808 ≤ c ∧ c ≤ 9223372036854775807) :
    Calls Try.prog 5 #[.int .i64 a, .int .i64 b, .int .i64 c] w fun e w' => e = .returned (.bool true) ∧ Below w.heap.size w w' := by
  by_cases h0 : a < 0
  · have f0 : decide (a < 0) = true := by rw [decide_eq_true_iff]; exact h0
    go_enter Try.func5, Try.ntmps5
    go_wp2_with fail
    refine (awake_yes _).mono ?_; rintro e wx ⟨rfl, mm, rfl⟩
    go_wp2_with fail
    go_ret
    exact ⟨rfl, ext_drewN _ _⟩
  have f0 : decide (a < 0) = false := by rw [decide_eq_false_iff_not]; exact h0
  by_cases h1 : (67108864 : Int) < a
  · have f1 : decide ((67108864 : Int) < a) = true := by rw [decide_eq_true_iff]; exact h1
    go_enter Try.func5, Try.ntmps5
    go_wp2_with fail
    refine (awake_yes _).mono ?_; rintro e wx ⟨rfl, mm, rfl⟩
    go_wp2_with fail
    go_ret
    exact ⟨rfl, ext_drewN _ _⟩
  have f1 : decide ((67108864 : Int) < a) = false := by rw [decide_eq_false_iff_not]; exact h1
  by_cases h2 : b < 0
  · have f2 : decide (b < 0) = true := by rw [decide_eq_true_iff]; exact h2
    go_enter Try.func5, Try.ntmps5
    go_wp2_with fail
    refine (awake_yes _).mono ?_; rintro e wx ⟨rfl, mm, rfl⟩
    go_wp2_with fail
    go_ret
    exact ⟨rfl, ext_drewN _ _⟩
  have f2 : decide (b < 0) = false := by rw [decide_eq_false_iff_not]; exact h2
  by_cases h3 : (67108864 : Int) < b
  · have f3 : decide ((67108864 : Int) < b) = true := by rw [decide_eq_true_iff]; exact h3
    go_enter Try.func5, Try.ntmps5
    go_wp2_with fail
    refine (awake_yes _).mono ?_; rintro e wx ⟨rfl, mm, rfl⟩
    go_wp2_with fail
    go_ret
    exact ⟨rfl, ext_drewN _ _⟩
  have f3 : decide ((67108864 : Int) < b) = false := by rw [decide_eq_false_iff_not]; exact h3
  by_cases h4 : c < 1
  · have f4 : decide (c < 1) = true := by rw [decide_eq_true_iff]; exact h4
    go_enter Try.func5, Try.ntmps5
    go_wp2_with fail
    refine (awake_yes _).mono ?_; rintro e wx ⟨rfl, mm, rfl⟩
    go_wp2_with fail
    go_ret
    exact ⟨rfl, ext_drewN _ _⟩
  have f4 : decide (c < 1) = false := by rw [decide_eq_false_iff_not]; exact h4
  by_cases h5 : (67108864 : Int) < c
  · have f5 : decide ((67108864 : Int) < c) = true := by rw [decide_eq_true_iff]; exact h5
    go_enter Try.func5, Try.ntmps5
    go_wp2_with fail
    refine (awake_yes _).mono ?_; rintro e wx ⟨rfl, mm, rfl⟩
    go_wp2_with fail
    go_ret
    exact ⟨rfl, ext_drewN _ _⟩
  have f5 : decide ((67108864 : Int) < c) = false := by rw [decide_eq_false_iff_not]; exact h5
  obtain ⟨x, hx⟩ : ∃ x : Nat, a = x := ⟨a.toNat, by omega⟩
  obtain ⟨y, hy⟩ : ∃ x : Nat, b = x := ⟨b.toNat, by omega⟩
  obtain ⟨d, hd⟩ : ∃ x : Nat, c = x := ⟨c.toNat, by omega⟩
  subst hx; subst hy; subst hd
  have hSM : SM = 9007199254740992 := rfl
  have c1 := hid (fun W => scale_any (x : Int) y d W)
  have c2 := hid (fun W => scale_any (x : Int) d d W)
  rw [cutN_of (show x ≤ SM by omega), cutN_of (show y ≤ SM by omega), cutN_of (show d ≤ SM by omega), scale_plain (by omega) (by omega) (by omega)] at c1
  rw [cutN_of (show x ≤ SM by omega), cutN_of (show d ≤ SM by omega), scale_plain (by omega) (by omega) (by omega), Nat.mul_div_cancel _ (by omega)] at c2
  obtain ⟨m, hm⟩ : ∃ m, m = x * y := ⟨_, rfl⟩
  obtain ⟨q, hq⟩ : ∃ q, q = x * y / d := ⟨_, rfl⟩
  obtain ⟨e, he⟩ : ∃ e, e = q * d := ⟨_, rfl⟩
  have hmb : m ≤ 4503599627370496 := by
    have h : x * y ≤ 67108864 * 67108864 := Nat.mul_le_mul (by omega) (by omega)
    omega
  have hdm := Nat.div_add_mod (x * y) d
  have hml := Nat.mod_lt (x * y) (show 0 < d by omega)
  rw [← hq] at c1 hdm
  rw [Nat.mul_comm, ← he, ← hm] at hdm
  rw [← hm] at hml
  have hqb : q ≤ m := by rw [hq, hm]; exact Nat.div_le_self _ _
  have e1 : (x : Int) * y = m := by rw [← Int.natCast_mul, hm]
  have e2 : (m : Int) / d = q := by rw [hq, ← hm, Int.natCast_ediv]
  have e2' : (m : Int).tdiv d = q := by rw [Int.tdiv_eq_ediv_of_nonneg (by omega)]; exact e2
  have e3 : (q : Int) * d = e := by rw [← Int.natCast_mul, he]
  have he1 : e ≤ m := by omega
  have he2 : m < e + d := by omega
  have t1 : decide (e ≤ m) = true := by rw [decide_eq_true_iff]; exact he1
  have t2 : decide ((m : Int) - e < d) = true := by rw [decide_eq_true_iff]; omega
  have hd0 : ¬ d = 0 := by omega
  clear hm hq he hdm hml hSM h0 h1 h2 h3 h4 h5
  go_enter Try.func5, Try.ntmps5
  go_wp2_with fail
  refine (awake_yes _).mono ?_; rintro e wx ⟨rfl, mm, rfl⟩
  go_wp2_with fail
  refine (c1.out _).mono ?_; rintro e wx ⟨rfl, mm, rfl⟩
  go_wp2_with fail
  refine (c2.out _).mono ?_; rintro e wx ⟨rfl, mm, rfl⟩
  go_wp2_with fail
  go_ret
  exact ⟨rfl, ext_drewN _ _⟩
end Go.Proofs.Ytghmhekbimfegaa

/- satur: Cut, Add, Sub, Scale, Mul, Div, and its examples. -/
import Derived.Test.YthkhjhjlmneaoaaSatD
import Derived.Test.YthkhjhjlmneaoaaSatS
namespace Go.Proofs.Ythkhjhjlmneaoaa
open Go.BK Go.RowKit
set_option linter.unusedVariables false

theorem ext_drewN (w : World) (n : Nat) : Ext w (w.drewN n) := ⟨rfl, rfl, rfl, Nat.le_refl _, fun _ _ => rfl⟩
theorem ext_drew (w : World) : Ext w w.drew := (Below.refl _ _).drew
theorem quiet_sym {P : Program} {f : FuncId} {args : Array Value} {w : World} {n : Nat} {v : Value}
    (h : Calls P f args (w.drewN n) fun e w' => e = .returned v ∧ w.drewN n = w') : Calls P f args (w.drewN n) fun e w'' => e = .returned v ∧ ∃ m, w'' = w.drewN m :=
  h.mono fun _ _ ⟨he, hm⟩ => ⟨he, n, hm.symm⟩
theorem ret_bool {a b : Bool} (h : a = b) : Ending.returned (.bool a) = .returned (.bool b) := by rw [h]
theorem ret_int {k : IntKind} {a b : Int} (h : a = b) : Ending.returned (.int k a) = .returned (.int k b) := by rw [h]

theorem cutN_int (n : Int) : min (max n 0) 9007199254740992 = ((cutN n : Nat) : Int) := by
  have : SM = 9007199254740992 := rfl
  unfold cutN
  omega
theorem cut_any (n : Int) (w : World) : Calls Try.prog 21 #[.int .i64 n] w fun e w' => e = .returned (.int .i64 (cutN n : Nat)) ∧ w = w' := by
  go_enter Try.func21, Try.ntmps21
  go_wp2
  go_ret
  exact ⟨ret_int (cutN_int n), rfl⟩
theorem cut_le (n : Int) : cutN n ≤ 9007199254740992 := cutN_le n
theorem cut_to (n : Int) (x : Nat) (h : cutN n = x) (w : World) : Calls Try.prog 21 #[.int .i64 n] w fun e w' => e = .returned (.int .i64 (x : Nat)) ∧ w = w' := by
  subst h; exact cut_any n w

theorem add_any (a b : Int) (w : World) : Calls Try.prog 31 #[.int .i64 a, .int .i64 b] w fun e w' => e = .returned (.int .i64 (addN (cutN a) (cutN b) : Nat)) ∧ w = w' := by
  have hx := cut_le a
  have hy := cut_le b
  have c1 := hid (fun W => cut_any a W)
  have c2 := hid (fun W => cut_any b W)
  generalize cutN a = x at *
  generalize cutN b = y at *
  obtain ⟨z, hz⟩ : ∃ z, cutN ((x : Int) + y) = z := ⟨_, rfl⟩
  have c3 := hid (fun W => cut_to _ z hz W)
  have e : addN x y = z := by rw [← hz]; unfold addN cutN; omega
  rw [e]
  clear hz e
  go_enter Try.func31, Try.ntmps31
  go_wp2_with fail
  refine (c1.out _).mono ?_; rintro e w1 ⟨rfl, rfl⟩
  go_wp2_with fail
  refine (c2.out _).mono ?_; rintro e w1 ⟨rfl, rfl⟩
  go_wp2_with fail
  refine (c3.out _).mono ?_; rintro e w1 ⟨rfl, rfl⟩
  go_wp2_with fail
  go_ret
  exact ⟨rfl, rfl⟩
theorem sub_any (a b : Int) (w : World) : Calls Try.prog 30 #[.int .i64 a, .int .i64 b] w fun e w' => e = .returned (.int .i64 (cutN a - cutN b : Nat)) ∧ w = w' := by
  have hx := cut_le a
  have hy := cut_le b
  have c1 := hid (fun W => cut_any a W)
  have c2 := hid (fun W => cut_any b W)
  generalize cutN a = x at *
  generalize cutN b = y at *
  obtain ⟨z, hz⟩ : ∃ z, cutN ((x : Int) - y) = z := ⟨_, rfl⟩
  have c3 := hid (fun W => cut_to _ z hz W)
  have e : x - y = z := by rw [← hz]; unfold cutN; have : SM = 9007199254740992 := rfl; omega
  rw [e]
  clear hz e
  go_enter Try.func30, Try.ntmps30
  go_wp2_with fail
  refine (c1.out _).mono ?_; rintro e w1 ⟨rfl, rfl⟩
  go_wp2_with fail
  refine (c2.out _).mono ?_; rintro e w1 ⟨rfl, rfl⟩
  go_wp2_with fail
  refine (c3.out _).mono ?_; rintro e w1 ⟨rfl, rfl⟩
  go_wp2_with fail
  go_ret
  exact ⟨rfl, rfl⟩

set_option maxHeartbeats 1000000 in
theorem scale_any (a b c : Int) (w : World) : Calls Try.prog 32 #[.int .i64 a, .int .i64 b, .int .i64 c] w fun e w' => e = .returned (.int .i64 (scaleN (cutN a) (cutN b) (cutN c) : Nat)) ∧ ∃ m, w' = w.drewN m := by
  have hx := cut_le a
  have hy := cut_le b
  have hz := cut_le c
  have c1 := hid (fun W => cut_any a W)
  have c2 := hid (fun W => cut_any b W)
  have c3 := hid (fun W => cut_any c W)
  generalize cutN a = x at *
  generalize cutN b = y at *
  generalize cutN c = z at *
  have c4 := hid (fun W => Try.bits_Mul64 x y (by omega) (by omega) W)
  obtain ⟨h, hh⟩ : ∃ h, h = x * y / 18446744073709551616 := ⟨_, rfl⟩
  obtain ⟨l, hl⟩ : ∃ h, h = x * y % 18446744073709551616 := ⟨_, rfl⟩
  rw [← hh, ← hl] at c4
  have hl2 : l < 18446744073709551616 := by omega
  have hxy : x * y = h * 18446744073709551616 + l := by omega
  by_cases h0 : h = 0 ∧ l = 0
  · obtain ⟨rfl, rfl⟩ := h0
    rw [show scaleN x y z = 0 from by unfold scaleN; rw [if_pos (by omega)]]
    clear hh hl hxy
    go_enter Try.func32, Try.ntmps32
    go_wp2_with fail
    refine (c1.out _).mono ?_; rintro e w1 ⟨rfl, rfl⟩
    go_wp2_with fail
    refine (c2.out _).mono ?_; rintro e w1 ⟨rfl, rfl⟩
    go_wp2_with fail
    refine (c4.out _).mono ?_; rintro e w1 ⟨rfl, hw⟩; subst hw
    go_wp2_with fail
    refine (c3.out _).mono ?_; rintro e w1 ⟨rfl, rfl⟩
    go_wp2_with fail
    go_ret
    exact ⟨rfl, 0, rfl⟩
  · have hne : x * y ≠ 0 := by omega
    by_cases h1 : z ≤ h
    · rw [scaleN_hi hne (by omega)]
      have h0' : decide ((h : Int) = 0 ∧ (l : Int) = 0) = false := by rw [decide_eq_false_iff_not]; omega
      have hcase : ((h : Int) == 0) = false ∨ (((h : Int) == 0) = true ∧ ((l : Int) == 0) = false) := by
        rcases Nat.eq_zero_or_pos h with e | e
        · right; subst e; refine ⟨rfl, ?_⟩; rw [beq_eq_false_iff_ne]; omega
        · left; rw [beq_eq_false_iff_ne]; omega
      clear hh hl hxy h0 h0' hne
      rcases hcase with q1 | ⟨q1, q2⟩
      all_goals
        go_enter Try.func32, Try.ntmps32
        go_wp2_with fail
        refine (c1.out _).mono ?_; rintro e w1 ⟨rfl, rfl⟩
        go_wp2_with fail
        refine (c2.out _).mono ?_; rintro e w1 ⟨rfl, rfl⟩
        go_wp2_with fail
        refine (c4.out _).mono ?_; rintro e w1 ⟨rfl, hw⟩; subst hw
        go_wp2_with fail
        refine (c3.out _).mono ?_; rintro e w1 ⟨rfl, rfl⟩
        go_wp2_with fail
        go_ret
        exact ⟨rfl, 0, rfl⟩
    · rw [scaleN_lo hne (by omega)]
      have c5 := hid (fun W => div64_ok h l z W (by omega) (by omega) hl2)
      rw [← hxy] at c5
      obtain ⟨q, hq⟩ : ∃ q, q = x * y / z := ⟨_, rfl⟩
      rw [← hq] at c5 ⊢
      have hqb : q ≤ 18446744073709551615 := by
        have : x * y ≤ 9007199254740992 * 9007199254740992 := Nat.mul_le_mul hx hy
        have hz2 : (h + 1) ≤ z := by omega
        have : x * y / z < 18446744073709551616 := by
          rw [Nat.div_lt_iff_lt_mul (by omega)]
          omega
        omega
      have hcase : ((h : Int) == 0) = false ∨ (((h : Int) == 0) = true ∧ ((l : Int) == 0) = false) := by
        rcases Nat.eq_zero_or_pos h with e | e
        · right; subst e; refine ⟨rfl, ?_⟩; rw [beq_eq_false_iff_ne]; omega
        · left; rw [beq_eq_false_iff_ne]; omega
      have h1' : decide ((z : Int) ≤ (h : Int)) = false := by rw [decide_eq_false_iff_not]; omega
      have hmin : ((min q SM : Nat) : Int) = min (q : Int) 9007199254740992 := by have : SM = 9007199254740992 := rfl; omega
      rw [hmin]
      clear hh hl hxy h0 hne hq hmin
      rcases hcase with q1 | ⟨q1, q2⟩
      all_goals
        go_enter Try.func32, Try.ntmps32
        go_wp2_with fail
        refine (c1.out _).mono ?_; rintro e w1 ⟨rfl, rfl⟩
        go_wp2_with fail
        refine (c2.out _).mono ?_; rintro e w1 ⟨rfl, rfl⟩
        go_wp2_with fail
        refine (c4.out _).mono ?_; rintro e w1 ⟨rfl, hw⟩; subst hw
        go_wp2_with fail
        refine (c3.out _).mono ?_; rintro e w1 ⟨rfl, rfl⟩
        go_wp2_with fail
        refine (c5.out _).mono ?_; rintro e w1 ⟨⟨r, rfl⟩, m, rfl⟩
        go_wp2_with fail
        go_ret
        exact ⟨rfl, m, rfl⟩
theorem mul_any (a b : Int) (w : World) : Calls Try.prog 29 #[.int .i64 a, .int .i64 b] w fun e w' => e = .returned (.int .i64 (mulN (cutN a) (cutN b) : Nat)) ∧ ∃ m, w' = w.drewN m := by
  have c := hid (fun W => scale_any a b 1 W)
  rw [show cutN 1 = 1 from by decide] at c
  unfold mulN
  generalize scaleN (cutN a) (cutN b) 1 = z at *
  go_enter Try.func29, Try.ntmps29
  go_wp2_with fail
  refine (c.out _).mono ?_; rintro e w1 ⟨rfl, m, rfl⟩
  go_wp2_with fail
  go_ret
  exact ⟨rfl, m, rfl⟩
end Go.Proofs.Ythkhjhjlmneaoaa

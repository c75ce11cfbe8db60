/- The document's counts: Cut, Add, Sub, Mul, Div, Scale. -/
import Derived.Test.YthkhjhjlmneaoaaSatA
namespace Go.Proofs.Ythkhjhjlmneaoaa
open Go.BK Go.RowKit
set_option linter.unusedVariables false

theorem rcut_any (n : Int) (w : World) : Calls Try.prog 25 #[.int .i64 n] w fun e w' => e = .returned (.int .i64 (cutN n : Nat)) ∧ w = w' := by
  have hc := cutN_int n
  rcases Int.lt_or_le n 0 with h | h
  · rw [show ((cutN n : Nat) : Int) = 0 from by omega]
    go_enter Try.func25, Try.ntmps25
    go_wp2
    go_ret
    exact ⟨rfl, rfl⟩
  · rcases Int.lt_or_le 9007199254740992 n with h2 | h2
    · rw [show ((cutN n : Nat) : Int) = 9007199254740992 from by omega]
      clear hc
      go_enter Try.func25, Try.ntmps25
      go_wp2
      go_ret
      exact ⟨rfl, rfl⟩
    · rw [show ((cutN n : Nat) : Int) = n from by omega]
      have hd : decide ((9007199254740992 : Int) < n) = false := by rw [decide_eq_false_iff_not]; omega
      clear hc
      go_enter Try.func25, Try.ntmps25
      go_wp2
      go_ret
      exact ⟨rfl, rfl⟩
theorem rcut_to (n : Int) (x : Nat) (h : cutN n = x) (w : World) : Calls Try.prog 25 #[.int .i64 n] w fun e w' => e = .returned (.int .i64 (x : Nat)) ∧ w = w' := by
  subst h; exact rcut_any n w
theorem radd_any (a b : Int) (w : World) : Calls Try.prog 27 #[.int .i64 a, .int .i64 b] w fun e w' => e = .returned (.int .i64 (addN (cutN a) (cutN b) : Nat)) ∧ w = w' := by
  have hx := cut_le a
  have hy := cut_le b
  have c1 := hid (fun W => rcut_any a W)
  have c2 := hid (fun W => rcut_any b W)
  generalize cutN a = x at *
  generalize cutN b = y at *
  obtain ⟨z, hz⟩ : ∃ z, cutN ((x : Int) + y) = z := ⟨_, rfl⟩
  have c3 := hid (fun W => rcut_to _ z hz W)
  have e : addN x y = z := by rw [← hz]; unfold addN cutN; omega
  rw [e]
  clear hz e
  go_enter Try.func27, Try.ntmps27
  go_wp2_with fail
  refine (c1.out _).mono ?_; rintro e w1 ⟨rfl, rfl⟩
  go_wp2_with fail
  refine (c2.out _).mono ?_; rintro e w1 ⟨rfl, rfl⟩
  go_wp2_with fail
  refine (c3.out _).mono ?_; rintro e w1 ⟨rfl, rfl⟩
  go_wp2_with fail
  go_ret
  exact ⟨rfl, rfl⟩
theorem rmul_any (a b : Int) (w : World) : Calls Try.prog 28 #[.int .i64 a, .int .i64 b] w fun e w' => e = .returned (.int .i64 (mulN (cutN a) (cutN b) : Nat)) ∧ w = w' := by
  have hx := cut_le a
  have hy := cut_le b
  have c1 := hid (fun W => rcut_any a W)
  have c2 := hid (fun W => rcut_any b W)
  generalize cutN a = x at *
  generalize cutN b = y at *
  rw [mulN_eq]
  have hSM : SM = 9007199254740992 := rfl
  rcases Nat.eq_zero_or_pos x with hx0 | hx0
  · subst hx0
    rw [show min (0 * y) SM = 0 from by omega]
    go_enter Try.func28, Try.ntmps28
    go_wp2_with fail
    refine (c1.out _).mono ?_; rintro e w1 ⟨rfl, rfl⟩
    go_wp2_with fail
    refine (c2.out _).mono ?_; rintro e w1 ⟨rfl, rfl⟩
    go_wp2_with fail
    go_ret
    exact ⟨rfl, rfl⟩
  have x0 : ((x : Int) == 0) = false := by rw [beq_eq_false_iff_ne]; omega
  rcases Nat.eq_zero_or_pos y with hy0 | hy0
  · subst hy0
    rw [show min (x * 0) SM = 0 from by omega]
    clear hx0
    go_enter Try.func28, Try.ntmps28
    go_wp2_with fail
    refine (c1.out _).mono ?_; rintro e w1 ⟨rfl, rfl⟩
    go_wp2_with fail
    refine (c2.out _).mono ?_; rintro e w1 ⟨rfl, rfl⟩
    go_wp2_with fail
    go_ret
    exact ⟨rfl, rfl⟩
  have y0 : ((y : Int) == 0) = false := by rw [beq_eq_false_iff_ne]; omega
  have y1 : ¬ y = 0 := by omega
  obtain ⟨q, hq⟩ : ∃ q, q = 9007199254740992 / y := ⟨_, rfl⟩
  have e1 : (9007199254740992 : Int) / y = q := by rw [hq]; exact (Int.natCast_ediv 9007199254740992 y).symm
  have e1' : (9007199254740992 : Int).tdiv y = q := by rw [Int.tdiv_eq_ediv_of_nonneg (by omega)]; exact e1
  have hqb : q ≤ 9007199254740992 := by have := Nat.div_le_self 9007199254740992 y; omega
  by_cases hbig : q < x
  · have hm : 9007199254740992 < x * y := by
      rw [hq] at hbig
      exact (Nat.div_lt_iff_lt_mul hy0).1 hbig
    rw [show min (x * y) SM = 9007199254740992 from by omega]
    have hd : decide (q < x) = true := by rw [decide_eq_true_iff]; exact hbig
    clear hx0 hy0 hq hm hbig hSM
    go_enter Try.func28, Try.ntmps28
    go_wp2_with fail
    refine (c1.out _).mono ?_; rintro e w1 ⟨rfl, rfl⟩
    go_wp2_with fail
    refine (c2.out _).mono ?_; rintro e w1 ⟨rfl, rfl⟩
    go_wp2_with fail
    go_ret
    exact ⟨rfl, rfl⟩
  · have hm : x * y ≤ 9007199254740992 := by
      rw [hq] at hbig
      exact (Nat.le_div_iff_mul_le hy0).1 (Nat.le_of_not_lt hbig)
    rw [show min (x * y) SM = x * y from by omega]
    obtain ⟨p, hp⟩ : ∃ p, p = x * y := ⟨_, rfl⟩
    rw [← hp] at hm ⊢
    have c3 := hid (fun W => rcut_to (p : Int) p (cutN_of (by omega)) W)
    have e2 : (x : Int) * y = p := by rw [← Int.natCast_mul, hp]
    have hd : decide (q < x) = false := by rw [decide_eq_false_iff_not]; exact hbig
    clear hx0 hy0 hq hbig hp hSM
    go_enter Try.func28, Try.ntmps28
    go_wp2_with fail
    refine (c1.out _).mono ?_; rintro e w1 ⟨rfl, rfl⟩
    go_wp2_with fail
    refine (c2.out _).mono ?_; rintro e w1 ⟨rfl, rfl⟩
    go_wp2_with fail
    refine (c3.out _).mono ?_; rintro e w1 ⟨rfl, rfl⟩
    go_wp2_with fail
    go_ret
    exact ⟨rfl, rfl⟩
end Go.Proofs.Ythkhjhjlmneaoaa

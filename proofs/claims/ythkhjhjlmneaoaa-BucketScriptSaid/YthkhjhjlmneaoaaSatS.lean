/- Plain law of counts that never wrap. -/
import Derived.Test.YthkhjhjlmneaoaaRows
namespace Go.BK
abbrev SM : Nat := 9007199254740992
def cutN (n : Int) : Nat := min n.toNat SM
def addN (x y : Nat) : Nat := min (x + y) SM
def scaleN (x y d : Nat) : Nat := if x * y = 0 then 0 else if d = 0 then SM else min (x * y / d) SM
def mulN (x y : Nat) : Nat := scaleN x y 1
def divN (x y : Nat) : Nat := scaleN x 1 y
theorem cutN_le (n : Int) : cutN n ≤ SM := Nat.min_le_right _ _
theorem cutN_of {x : Nat} (h : x ≤ SM) : cutN (x : Int) = x := by unfold cutN; omega
theorem addN_le (x y : Nat) : addN x y ≤ SM := Nat.min_le_right _ _
theorem scaleN_le (x y d : Nat) : scaleN x y d ≤ SM := by unfold scaleN; split; · omega
                                                          split <;> omega
theorem mulN_eq (x y : Nat) : mulN x y = min (x * y) SM := by
  unfold mulN scaleN
  rw [Nat.div_one]
  split <;> simp_all
theorem divN_eq (x y : Nat) (hx : x ≤ SM) : divN x y = if y = 0 then (if x = 0 then 0 else SM) else x / y := by
  unfold divN scaleN
  rw [Nat.mul_one]
  by_cases hx0 : x = 0
  · subst hx0; simp
  · rw [if_neg hx0]
    split
    · rfl
    · have := Nat.div_le_self x y
      omega
theorem scaleN_hi {x y d : Nat} (h0 : x * y ≠ 0) (h : d ≤ x * y / 18446744073709551616) : scaleN x y d = SM := by
  unfold scaleN
  rw [if_neg h0]
  split
  · rfl
  · have h1 : 18446744073709551616 * d ≤ x * y := by
      have := Nat.div_mul_le_self (x * y) 18446744073709551616
      have := Nat.mul_le_mul_right 18446744073709551616 h
      omega
    have h2 : 18446744073709551616 ≤ x * y / d := by
      rw [Nat.le_div_iff_mul_le (by omega)]; omega
    have h3 : SM = 9007199254740992 := rfl
    omega
theorem scaleN_lo {x y d : Nat} (h0 : x * y ≠ 0) (h : x * y / 18446744073709551616 < d) : scaleN x y d = min (x * y / d) SM := by
  unfold scaleN
  rw [if_neg h0, if_neg (by omega)]

theorem mul_assoc_sat (x y z : Nat) (hx : x ≤ SM) (hz : z ≤ SM) : mulN (mulN x y) z = mulN x (mulN y z) := by
  rw [mulN_eq, mulN_eq, mulN_eq, mulN_eq]
  rcases Nat.eq_zero_or_pos z with h | h
  · subst h; simp
  rcases Nat.eq_zero_or_pos x with h1 | h1
  · subst h1; simp
  rcases Nat.le_total SM (x * y) with h2 | h2
  · rw [Nat.min_eq_right h2]
    have h3 : SM ≤ SM * z := Nat.le_mul_of_pos_right _ h
    rw [Nat.min_eq_right h3]
    rcases Nat.le_total SM (y * z) with h4 | h4
    · rw [Nat.min_eq_right h4]
      have : SM ≤ x * SM := Nat.le_mul_of_pos_left _ h1
      omega
    · rw [Nat.min_eq_left h4, ← Nat.mul_assoc]
      have : x * y ≤ x * y * z := Nat.le_mul_of_pos_right _ h
      omega
  · rw [Nat.min_eq_left h2]
    rcases Nat.le_total SM (y * z) with h4 | h4
    · rw [Nat.min_eq_right h4]
      have h5 : SM ≤ x * SM := Nat.le_mul_of_pos_left _ h1
      have h6 : y * z ≤ x * (y * z) := Nat.le_mul_of_pos_left _ h1
      rw [Nat.mul_assoc]
      omega
    · rw [Nat.min_eq_left h4, Nat.mul_assoc]
theorem mulN_comm (x y : Nat) : mulN x y = mulN y x := by rw [mulN_eq, mulN_eq, Nat.mul_comm]
theorem addN_comm (x y : Nat) : addN x y = addN y x := by unfold addN; rw [Nat.add_comm]
theorem addN_assoc (x y z : Nat) : addN (addN x y) z = addN x (addN y z) := by unfold addN; omega
theorem mulN_ge {x y : Nat} (hx : x ≤ SM) (hy : 0 < y) : x ≤ mulN x y := by
  rw [mulN_eq]
  have := Nat.le_mul_of_pos_right x hy
  omega
/-- The document's way, bit by bit. X: what was read of n so far. -/
def toldN (X y d : Nat) : Nat := min (X * y / d) (SM + 1)
def restN (X y d : Nat) : Nat := X * y % d
theorem told_step (X y d b : Nat) (hd : 0 < d) (hb : b ≤ 1) :
    toldN (2 * X + b) y d = (let t := 2 * toldN X y d + b * (y / d) + (2 * restN X y d + b * (y % d)) / d; if SM < t then SM + 1 else t) ∧ restN (2 * X + b) y d = (2 * restN X y d + b * (y % d)) % d := by
  have e1 : (2 * X + b) * y = d * (2 * (X * y / d) + b * (y / d)) + (2 * (X * y % d) + b * (y % d)) := by
    have h1 := Nat.div_add_mod (X * y) d
    have h2 := Nat.div_add_mod y d
    rw [Nat.add_mul, Nat.mul_assoc]
    generalize X * y = p at *
    rcases (show b = 0 ∨ b = 1 by omega) with rfl | rfl
    · rw [Nat.mul_add, Nat.mul_left_comm]; omega
    · rw [Nat.mul_add, Nat.mul_left_comm]; simp only [Nat.one_mul]; omega
  have e2 : (2 * X + b) * y / d = 2 * (X * y / d) + b * (y / d) + (2 * (X * y % d) + b * (y % d)) / d := by
    rw [e1, Nat.mul_add_div hd]
  have e3 : (2 * X + b) * y % d = (2 * (X * y % d) + b * (y % d)) % d := by
    rw [e1, Nat.mul_add_mod]
  unfold toldN restN
  rw [e2, e3]
  refine ⟨?_, rfl⟩
  generalize (2 * (X * y % d) + b * (y % d)) / d = u
  generalize X * y / d = v
  generalize b * (y / d) = t
  show _ = if SM < 2 * min v (SM + 1) + t + u then SM + 1 else 2 * min v (SM + 1) + t + u
  split <;> omega
end Go.BK

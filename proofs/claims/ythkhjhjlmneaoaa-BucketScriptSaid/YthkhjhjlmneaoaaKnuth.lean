/- Plain law of long division, digit by digit. -/
import Derived.Test.YthkhjhjlmneaoaaRows
namespace Go.BK
theorem knuth_first {B v1 v0 u32 u1 d N : Nat} (hB : 0 < B) (hd : d = v1 * B + v0) (hv0 : v0 < B) (hv1 : B ≤ 2 * v1) (hu : u32 < d) (hu1 : u1 < B) (hN : N = u32 * B + u1) :
    N / d ≤ u32 / v1 ∧ u32 / v1 ≤ B + 1 ∧ N / d < B ∧ u32 / v1 * v1 + (u32 % v1) = u32 := by
  have hv1p : 0 < v1 := by omega
  have hdp : 0 < d := by omega
  have h4 : u32 / v1 * v1 + u32 % v1 = u32 := by rw [Nat.mul_comm]; exact Nat.div_add_mod u32 v1
  have h3 : N / d < B := by
    rw [Nat.div_lt_iff_lt_mul hdp]
    have : (u32 + 1) * B ≤ d * B := Nat.mul_le_mul_right _ hu
    rw [Nat.add_mul] at this
    rw [Nat.mul_comm B d]
    omega
  refine ⟨?_, ?_, h3, h4⟩
  · rw [Nat.le_div_iff_mul_le hv1p]
    have h1 : N / d * d ≤ N := Nat.div_mul_le_self N d
    generalize N / d = q at *
    have h2 : q * d = q * v1 * B + q * v0 := by rw [hd, Nat.mul_add, Nat.mul_assoc]
    have h5 : q * v1 * B < (u32 + 1) * B := by rw [Nat.add_mul]; omega
    have := Nat.lt_of_mul_lt_mul_right h5
    omega
  · have : u32 / v1 < B + 2 := by
      rw [Nat.div_lt_iff_lt_mul hv1p, Nat.add_mul, Nat.mul_comm B v1]
      omega
    omega

theorem knuth_test {B v1 v0 u32 u1 d N q r : Nat} (hd : d = v1 * B + v0) (hN : N = u32 * B + u1) (hq : q * v1 + r = u32) : N < q * d ↔ B * r + u1 < q * v0 := by
  have h1 : q * d = q * v1 * B + q * v0 := by rw [hd, Nat.mul_add, Nat.mul_assoc]
  have h2 : u32 * B = q * v1 * B + r * B := by rw [← hq, Nat.add_mul]
  rw [h1, hN, h2, Nat.mul_comm B r]
  omega
theorem knuth_big {B u32 u1 d N q : Nat} (hu : u32 < d) (hu1 : u1 < B) (hN : N = u32 * B + u1) (h : B ≤ q) : N < q * d := by
  have h1 : B * d ≤ q * d := Nat.mul_le_mul_right _ h
  have h2 : (u32 + 1) * B ≤ d * B := Nat.mul_le_mul_right _ hu
  rw [Nat.add_mul] at h2
  rw [Nat.mul_comm] at h1
  omega
theorem knuth_break {B v1 v0 u32 u1 d N q r : Nat} (hd : d = v1 * B + v0) (hN : N = u32 * B + u1) (hv0 : v0 < B) (hq : q * v1 + r = u32) (hqB : q ≤ B) (hr : B ≤ r) : q * d ≤ N := by
  have := (knuth_test (B := B) (u1 := u1) hd hN hq)
  apply Nat.le_of_not_lt
  rw [this]
  have h1 : q * v0 ≤ B * v0 := Nat.mul_le_mul_right _ hqB
  have h2 : B * v0 ≤ B * B := Nat.mul_le_mul_left _ (Nat.le_of_lt hv0)
  have h3 : B * B ≤ B * r := Nat.mul_le_mul_left _ hr
  omega
theorem knuth_step {d N q : Nat} (hd : 0 < d) (h : N / d ≤ q) (h2 : N < q * d) : N / d ≤ q - 1 ∧ 1 ≤ q := by
  have h3 : N / d < q := (Nat.div_lt_iff_lt_mul hd).2 h2
  generalize N / d = x at *
  omega
theorem knuth_done {d N q : Nat} (hd : 0 < d) (h : N / d ≤ q) (h2 : q * d ≤ N) : q = N / d := by
  have h3 := (Nat.le_div_iff_mul_le hd).2 h2
  generalize N / d = x at *
  omega

/-- The numbers of the division of two words by one. -/
theorem div64_nums (B W p q hi lo y d u32 u10 u1 u0 : Nat) (hB : 0 < B) (hW : W = B * B) (hp : 0 < p) (hpq : p * q = W) (h : hi < y) (hlo : lo < W) (hd : d = y * p) (hd2 : d < W)
    (hu32 : u32 = hi * p + lo / q) (hu10 : u10 = lo * p % W) (hu1 : u1 = u10 / B) (hu0 : u0 = u10 % B) :
    u32 < d ∧ hi * p < W ∧ (hi * W + lo) / y = (u32 * B + u1) / d * B + ((u32 * B + u1) % d * B + u0) / d := by
  have hyp : 0 < y := by omega
  have hdp : 0 < d := by rw [hd]; exact Nat.mul_pos hyp hp
  have hq0 : 0 < q := by
    rcases Nat.eq_zero_or_pos q with h | h
    · rw [h] at hpq; omega
    · exact h
  have hA : (hi + 1) * p ≤ y * p := Nat.mul_le_mul_right _ h
  rw [Nat.add_mul, Nat.one_mul] at hA
  have hl : lo / q < p := by rw [Nat.div_lt_iff_lt_mul hq0, hpq]; exact hlo
  have h32 : u32 < d := by omega
  have hX : (hi * W + lo) * p = u32 * W + u10 := by
    have e1 : lo * p = lo / q * W + u10 := by
      have h1 := Nat.div_add_mod lo q
      have h2 : lo * p = q * (lo / q) * p + lo % q * p := by rw [← Nat.add_mul, h1]
      have h3 : q * (lo / q) * p = lo / q * W := by rw [Nat.mul_comm q, Nat.mul_assoc, Nat.mul_comm q p, hpq]
      have h4 : lo % q * p < W := by
        rw [← hpq, Nat.mul_comm p q]
        exact Nat.mul_lt_mul_of_pos_right (Nat.mod_lt _ hq0) hp
      have h5 : u10 = lo % q * p := by rw [hu10, h2, h3, Nat.mul_comm (lo / q), Nat.mul_add_mod, Nat.mod_eq_of_lt h4]
      rw [h5, h2, h3]
    rw [Nat.add_mul, e1, hu32, Nat.add_mul, Nat.mul_right_comm, Nat.add_assoc]
  refine ⟨h32, by omega, ?_⟩
  have e2 : u10 = u1 * B + u0 := by rw [hu1, hu0, Nat.mul_comm]; exact (Nat.div_add_mod u10 B).symm
  have e3 : u32 * W + u10 = (u32 * B + u1) * B + u0 := by rw [hW, e2, Nat.add_mul, Nat.mul_assoc, Nat.add_assoc]
  have e4 : (hi * W + lo) / y = ((u32 * B + u1) * B + u0) / d := by
    rw [← e3, ← hX, hd, Nat.mul_div_mul_right _ _ hp]
  rw [e4]
  generalize u32 * B + u1 = N
  have e5 := Nat.div_add_mod N d
  have e6 : N * B + u0 = d * (N / d * B) + (N % d * B + u0) := by
    have h1 : d * (N / d * B) = d * (N / d) * B := by rw [Nat.mul_assoc]
    have h2 : N * B = d * (N / d) * B + N % d * B := by rw [← Nat.add_mul, e5]
    rw [h1, h2, Nat.add_assoc]
  rw [e6, Nat.mul_add_div hdp]
theorem or_disjoint (a b s : Nat) (hb : b < 2 ^ s) : (a * 2 ^ s) ||| b = a * 2 ^ s + b := by
  rw [Nat.mul_comm]
  exact (Nat.two_pow_add_eq_or_of_lt hb a).symm
end Go.BK

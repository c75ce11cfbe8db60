/- Plain law of buckets. -/
import Derived.Test.YthkhjhjlmneaoaaSatS
namespace Go.BK
abbrev MT : Nat := 1099511627776
def okT (a : Nat) (now : Int) : Prop := ¬ (now < a ∨ (MT : Int) < now)
instance (a : Nat) (now : Int) : Decidable (okT a now) := by unfold okT; infer_instance
/-- What a filling leaves: tokens, and the time. -/
def fillT (rate burst t a : Nat) (now : Int) : Nat := if now < a ∨ (MT : Int) < now then t else min (addN t (mulN rate (now.toNat - a))) burst
def fillA (a : Nat) (now : Int) : Nat := if now < a ∨ (MT : Int) < now then a else now.toNat
theorem fillT_le {rate burst t a : Nat} (now : Int) (h : t ≤ burst) : fillT rate burst t a now ≤ burst := by
  unfold fillT
  split
  · exact h
  · exact Nat.min_le_right _ _
theorem fillA_le {a : Nat} (now : Int) (h : a ≤ MT) : fillA a now ≤ MT := by
  unfold fillA
  split
  · exact h
  · have : MT = 1099511627776 := rfl
    omega
/-- How long till there are n tokens; -1: never. -/
def ceilD (x r : Nat) : Nat := x / r + if x % r = 0 then 0 else 1
def whenS (rate burst t : Nat) (n : Int) : Int :=
  if n ≤ t then 0 else if (burst : Int) < n ∨ rate = 0 then -1 else if MT < ceilD (n.toNat - t) rate then -1 else ceilD (n.toNat - t) rate
theorem ceilD_le {x r d : Nat} (hr : 0 < r) : ceilD x r ≤ d ↔ x ≤ d * r := by
  unfold ceilD
  have h1 := Nat.div_add_mod x r
  have h2 := Nat.mod_lt x hr
  constructor
  · intro h
    have h3 : (x / r + if x % r = 0 then 0 else 1) * r ≤ d * r := Nat.mul_le_mul_right _ h
    split at h3
    · next h0 => rw [Nat.add_zero, Nat.mul_comm] at h3; omega
    · rw [Nat.add_mul, Nat.one_mul, Nat.mul_comm] at h3; omega
  · intro h
    have h4 : x / r ≤ d := by
      have : x / r ≤ d * r / r := Nat.div_le_div_right h
      rwa [Nat.mul_div_cancel _ hr] at this
    split
    · omega
    · next h0 =>
      rcases Nat.lt_or_ge (x / r) d with h5 | h5
      · omega
      · exfalso
        have h6 : d * r ≤ x / r * r := Nat.mul_le_mul_right _ h5
        rw [Nat.mul_comm (x / r)] at h6
        omega
end Go.BK

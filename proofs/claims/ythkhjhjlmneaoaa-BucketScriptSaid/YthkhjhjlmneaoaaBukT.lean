/- Plain law of buckets: how long. -/
import Derived.Test.YthkhjhjlmneaoaaBukS
namespace Go.BK
theorem fill_to {rate burst t a b : Nat} (ht : t ≤ burst) (hb : burst ≤ SM) (h : a ≤ b) (hm : b ≤ MT) : fillT rate burst t a (b : Int) = min (t + rate * (b - a)) burst ∧ fillA a (b : Int) = b := by
  unfold fillT fillA
  rw [if_neg (by omega), if_neg (by omega), mulN_eq]
  unfold addN
  rw [show ((b : Int)).toNat = b from by omega]
  generalize rate * (b - a) = x
  exact ⟨by omega, rfl⟩
theorem fill_same {rate burst t a : Nat} (ht : t ≤ burst) (hb : burst ≤ SM) (hm : a ≤ MT) : fillT rate burst t a (a : Int) = t ∧ fillA a (a : Int) = a := by
  have h := fill_to (rate := rate) ht hb (Nat.le_refl a) hm
  rw [Nat.sub_self, Nat.mul_zero, Nat.add_zero] at h
  exact ⟨by rw [h.1]; omega, h.2⟩
/-- When there are so many ticks to go. -/
theorem when_facts {rate burst t n d now : Nat} (ht : t < n) (hn : n ≤ burst) (hb : burst ≤ SM) (hr : 0 < rate) (hd : d = ceilD (n - t) rate) (hnow : now + d ≤ MT) :
    1 ≤ d ∧ fillT rate burst t now ((now + d - 1 : Nat) : Int) < n ∧ fillA now ((now + d - 1 : Nat) : Int) = now + d - 1 ∧ n ≤ fillT rate burst (fillT rate burst t now ((now + d - 1 : Nat) : Int)) (now + d - 1) ((now + d : Nat) : Int) := by
  have h1 : n - t ≤ d * rate := (ceilD_le hr).1 (by omega)
  have h2 : 1 ≤ d := by
    rcases Nat.eq_zero_or_pos d with h | h
    · rw [h] at h1; omega
    · exact h
  have h3 : ¬ n - t ≤ (d - 1) * rate := fun h => by
    have := (ceilD_le hr).2 h
    omega
  have f1 := fill_to (rate := rate) (a := now) (b := now + d - 1) (by omega : t ≤ burst) hb (by omega) (by omega)
  rw [show now + d - 1 - now = d - 1 from by omega] at f1
  have e1 : rate * (d - 1) = (d - 1) * rate := Nat.mul_comm _ _
  have f2 : fillT rate burst t now ((now + d - 1 : Nat) : Int) = t + (d - 1) * rate := by rw [f1.1, e1]; omega
  have f3 := fill_to (rate := rate) (burst := burst) (t := t + (d - 1) * rate) (a := now + d - 1) (b := now + d) (by omega) hb (by omega) hnow
  rw [show now + d - (now + d - 1) = 1 from by omega, Nat.mul_one] at f3
  refine ⟨h2, by rw [f2]; omega, f1.2, ?_⟩
  rw [f2, f3.1]
  have h4 : d * rate = (d - 1) * rate + rate := by
    obtain ⟨e, rfl⟩ : ∃ e, d = e + 1 := ⟨d - 1, by omega⟩
    rw [Nat.add_mul, Nat.one_mul]; rfl
  omega
theorem when_far {rate burst t n : Nat} (hn : n ≤ burst) (hb : burst ≤ SM) (hr : 0 < rate) (hd : MT < ceilD (n - t) rate) : rate < 8192 ∧ 1073741824 ≤ burst := by
  have h : ¬ n - t ≤ MT * rate := fun h => by have := (ceilD_le hr).2 h; omega
  have hSM : SM = 9007199254740992 := rfl
  change ¬ n - t ≤ 1099511627776 * rate at h
  omega
end Go.BK

/- A part of the contracts of the small functions that the statements share. -/
import Derived.Test.YtcddfenhkljpeaaKBase
namespace Go.Proofs.Ytcddfenhkljpeaa
open Go.BK Go.RowKit
set_option linter.unusedVariables false

/-- Pick: a number from 0 on, below n. -/
def pick (x n : Int) : Int := if n < 1 then 0 else x % n
theorem pick_range (x n : Int) (h : 1 ≤ n) : 0 ≤ pick x n ∧ pick x n < n := by
  unfold pick
  rw [if_neg (by omega)]
  exact ⟨Int.emod_nonneg _ (by omega), Int.emod_lt_of_pos _ (by omega)⟩
set_option maxHeartbeats 400000 in
theorem pick_any (x n : Int) (w : World) (hx : -9223372036854775808 ≤ x ∧ x ≤ 9223372036854775807) (hn : n ≤ 9223372036854775807) :
    Calls Try.prog 13 #[.int .i64 x, .int .i64 n] w fun e w' => e = .returned (.int .i64 (pick x n)) ∧ w = w' := by
  by_cases h1 : n < 1
  · go_enter Try.func13, Try.ntmps13
    go_wp2
    go_ret
    exact ⟨ret_int (by unfold pick; rw [if_pos (by omega)]), rfl⟩
  · have hn0 : ¬ n = 0 := by omega
    have e1 : x % n = if x.tmod n < 0 then x.tmod n + n else x.tmod n := by
      rcases Int.lt_or_le x 0 with hx0 | hx0
      · have h2 := Int.tmod_eq_emod (a := x) (b := n)
        have h3 := Int.emod_nonneg x hn0
        have h4 := Int.emod_lt_of_pos x (show 0 < n by omega)
        rw [h2]
        split <;> split <;> omega
      · rw [Int.tmod_eq_emod_of_nonneg hx0]
        have h3 := Int.emod_nonneg x hn0
        rw [if_neg (by omega)]
    have hb : -n < x.tmod n ∧ x.tmod n < n := by
      have h2 := Int.tmod_eq_emod (a := x) (b := n)
      have h3 := Int.emod_nonneg x hn0
      have h4 := Int.emod_lt_of_pos x (show 0 < n by omega)
      have h5 : (n.natAbs : Int) = n := by omega
      rw [h2]
      split <;> omega
    obtain ⟨hb1, hb2⟩ := hb
    have hq : ¬ (x = -9223372036854775808 ∧ n = -1) := by omega
    have E1 := hid e1
    clear e1
    by_cases h2 : x.tmod n < 0
    · go_enter Try.func13, Try.ntmps13
      go_wp2
      go_ret
      exact ⟨ret_int (by unfold pick; rw [if_neg (by omega), E1.out, if_pos h2]), rfl⟩
    · go_enter Try.func13, Try.ntmps13
      go_wp2
      go_ret
      exact ⟨ret_int (by unfold pick; rw [if_neg (by omega), E1.out, if_neg (by omega)]), rfl⟩

end Go.Proofs.Ytcddfenhkljpeaa

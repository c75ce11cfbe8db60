/- Layer 11: Size. -/
import Derived.Test.YtgcdpkjohaplcaaBasB
import Derived.Test.YtgcdpkjohaplcaaBasN
namespace Go.Proofs.Ytgcdpkjohaplcaa
open Go.BK Go.RowKit
set_option linter.unusedVariables false
/-- Size: how many bytes, and whether there may be so many letters. -/
def sizeS (n : Int) : Int × Bool := if n < 0 ∨ n % 4 = 1 then (0, false) else (n / 4 * 3 + max (n % 4 - 1) 0, true)
set_option maxHeartbeats 1000000 in
theorem size_any (n : Int) (w : World) (hn : -9223372036854775808 ≤ n ∧ n ≤ 9223372036854775807) :
    Calls Try.prog 10 #[.int .i64 n] w fun e w' => e = .returned (.tuple #[.int .i64 (sizeS n).1, .bool (sizeS n).2]) ∧ w = w' := by
  by_cases h0 : n < 0
  · rw [show sizeS n = (0, false) from by unfold sizeS; rw [if_pos (.inl h0)]]
    go_enter Try.func10, Try.ntmps10
    go_wp2_with fail
    go_returns
    exact ⟨rfl, rfl⟩
  · by_cases h1 : n % 4 = 1
    · have e : sizeS n = (0, false) := by unfold sizeS; rw [if_pos (.inr h1)]
      have h2 : (n % 4 == 1) = true := by simpa using h1
      have H1 := hid h1
      clear h1
      rw [e]
      clear e
      go_enter Try.func10, Try.ntmps10
      go_wp2_with fail
      go_returns
      exact ⟨rfl, rfl⟩
    · have e : sizeS n = (n / 4 * 3 + max (n % 4 - 1) 0, true) := by unfold sizeS; rw [if_neg (by omega)]
      have h2 : (n % 4 == 1) = false := by simpa using h1
      have b1 : 0 ≤ n % 4 := by omega
      have b2 : n % 4 < 4 := by omega
      rw [e]
      clear e h1
      go_enter Try.func10, Try.ntmps10
      go_wp2_with fail
      go_returns
      exact ⟨rfl, rfl⟩
end Go.Proofs.Ytgcdpkjohaplcaa

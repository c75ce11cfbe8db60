/- BucketNew, whole. -/
import Derived.Test.YthkhjhjlmneaoaaBukX
namespace Go.Proofs.Ythkhjhjlmneaoaa
open Go.BK Go.RowKit
set_option linter.unusedVariables false
set_option maxRecDepth 100000 in
set_option maxHeartbeats 2000000 in
theorem new_walk (rate burst now : Int) {A : Option Addr} {n c : Nat} {N B : Nat → Int} {A2 : Option Addr} {n2 c2 : Nat} {N2 B2 : Nat → Int} (w : World) (hr : -9223372036854775808 ≤ rate ∧ rate ≤ 9223372036854775807) (hb : -9223372036854775808 ≤ burst ∧ burst ≤ 9223372036854775807) (hw : -9223372036854775808 ≤ now ∧ now ≤ 9223372036854775807)
    (hA : AskR w A n c N B) (hA2 : AskR w A2 n2 c2 N2 B2) :
    Calls Try.prog 3 #[.int .i64 rate, .int .i64 burst, .int .i64 now, .slice A n c, .slice A2 n2 c2] w fun e w' => e = .returned (.bool true) ∧ Below w.heap.size w w' := by
  have hn9 : n ≤ 9223372036854775807 := by have := hA.1; have := hA.2.1; unfold maxLen at *; omega
  have hn92 : n2 ≤ 9223372036854775807 := by have := hA2.1; have := hA2.2.1; unfold maxLen at *; omega
  have HA := hid hA
  have HA2 := hid hA2
  clear hA hA2
  by_cases hne : ¬ ((cutN rate : Nat) : Int) = rate ∨ ¬ ((cutN burst : Nat) : Int) = burst ∨ now < 0 ∨ 1099511627776 < now
  · have cN := hid (fun W => new_no rate burst now W hne)
    clear hne
    go_enter Try.func3, Try.ntmps3
    go_wp2_with fail
    refine (awake_yes _).mono ?_; rintro e w0 ⟨rfl, B0⟩
    go_wp2_with fail
    refine (cN.out _).mono ?_; rintro e wx ⟨rfl, rfl⟩
    go_wp2_with fail
    go_ret
    exact ⟨rfl, B0⟩
  obtain ⟨r, hr'⟩ : ∃ r, r = cutN rate := ⟨_, rfl⟩
  obtain ⟨b, hb'⟩ : ∃ r, r = cutN burst := ⟨_, rfl⟩
  have hrle : r ≤ 9007199254740992 := by rw [hr']; exact cut_le _
  have hble : b ≤ 9007199254740992 := by rw [hb']; exact cut_le _
  rw [← hr', ← hb'] at hne
  obtain rfl : (r : Int) = rate := by omega
  obtain rfl : (b : Int) = burst := by omega
  obtain ⟨m, hm⟩ : ∃ m : Nat, now = m := ⟨now.toNat, by omega⟩
  subst hm
  have hmle : m ≤ 1099511627776 := by omega
  clear hne hr' hb'
  by_cases h1 : n ≤ 60
  · by_cases h2 : n2 ≤ 60
    · exact new_in r b m w hrle hble hmle h1 h2 HA.out HA2.out
    · go_enter Try.func3, Try.ntmps3
      go_wp2_with fail
      refine (awake_yes _).mono ?_; rintro e w0 ⟨rfl, B0⟩
      go_wp2_with fail
      refine (new_ok r b m _ hrle hble hmle).mono ?_; rintro e w2 ⟨rfl, K2, x2⟩
      have B2 := hid (below_ext B0 B0.size x2)
      clear K2 x2
      go_wp2_with fail
      go_ret
      exact ⟨rfl, B2.out⟩
  · go_enter Try.func3, Try.ntmps3
    go_wp2_with fail
    refine (awake_yes _).mono ?_; rintro e w0 ⟨rfl, B0⟩
    go_wp2_with fail
    refine (new_ok r b m _ hrle hble hmle).mono ?_; rintro e w2 ⟨rfl, K2, x2⟩
    have B2 := hid (below_ext B0 B0.size x2)
    clear K2 x2
    go_wp2_with fail
    go_ret
    exact ⟨rfl, B2.out⟩
end Go.Proofs.Ythkhjhjlmneaoaa

/- BucketScript, whole. -/
import Derived.Test.YthkhjhjlmneaoaaBukZ
namespace Go.Proofs.Ythkhjhjlmneaoaa
open Go.BK Go.RowKit
set_option linter.unusedVariables false
set_option maxRecDepth 100000 in
set_option maxHeartbeats 2000000 in
theorem script_walk (rate burst now : Int) {A : Option Addr} {n c : Nat} {K N T : Nat → Int} (w : World) (hr : -9223372036854775808 ≤ rate ∧ rate ≤ 9223372036854775807) (hb : -9223372036854775808 ≤ burst ∧ burst ≤ 9223372036854775807) (hw : -9223372036854775808 ≤ now ∧ now ≤ 9223372036854775807)
    (hA : ActR w A n c K N T) :
    Calls Try.prog 5 #[.int .i64 rate, .int .i64 burst, .int .i64 now, .slice A n c] w fun e w' => e = .returned (.bool true) ∧ Below w.heap.size w w' := by
  have hn9 : n ≤ 9223372036854775807 := by have := hA.1; have := hA.2.1; unfold maxLen at *; omega
  have HA := hid hA
  clear hA
  by_cases h1 : 200 < n
  · go_enter Try.func5, Try.ntmps5
    go_wp2_with fail
    refine (awake_yes _).mono ?_; rintro e w0 ⟨rfl, B0⟩
    go_wp2_with fail
    go_ret
    exact ⟨rfl, B0⟩
  by_cases hne : ¬ ((cutN rate : Nat) : Int) = rate ∨ ¬ ((cutN burst : Nat) : Int) = burst ∨ now < 0 ∨ 1099511627776 < now
  · have cN := hid (fun W => new_no rate burst now W hne)
    have cR := hid (fun W => rnew_no rate burst now W hne)
    clear hne
    go_enter Try.func5, Try.ntmps5
    go_wp2_with fail
    refine (cN.out _).mono ?_; rintro e wx ⟨rfl, rfl⟩
    go_wp2_with fail
    refine (cR.out _).mono ?_; rintro e wx ⟨rfl, rfl⟩
    go_wp2_with fail
    refine (awake_yes _).mono ?_; rintro e w0 ⟨rfl, B0⟩
    go_wp2_with fail
    go_ret
    exact ⟨rfl, B0⟩
  obtain ⟨r, hr'⟩ : ∃ r, r = cutN rate := ⟨_, rfl⟩
  obtain ⟨b, hb'⟩ : ∃ r, r = cutN burst := ⟨_, rfl⟩
  have hrle : r ≤ 9007199254740992 := by rw [hr']; exact cut_le _
  have hble : b ≤ 9007199254740992 := by rw [hb']; exact cut_le _
  rw [← hr', ← hb'] at hne
  obtain rfl : (r : Int) = rate := by omega
  obtain rfl : (b : Int) = burst := by omega
  obtain ⟨m, hm⟩ : ∃ m : Nat, now = m := ⟨now.toNat, by omega⟩
  subst hm
  exact script_in r b m w hrle hble (by omega) (by omega) HA.out
end Go.Proofs.Ythkhjhjlmneaoaa

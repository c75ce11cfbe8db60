/- Layer 19: Apart: answers that are handed in, Long, the walk. -/
import Derived.Test.YtnoepnbgnlolbaaRrlP
import Derived.Deep.RegionHeld3
import Derived.BigQuiet
namespace Go.Proofs.Ytnoepnbgnlolbaa
open Go.BK Go.RowKit Go.Maps
set_option linter.unusedVariables false

def RActR (w : World) (A : Option Addr) (n c : Nat) (C : Nat → Int) (Nm : Nat → ByteArray) (T : Nat → Int) : Prop :=
  n ≤ c ∧ c ≤ maxLen ∧ ∀ i, i < n → ∃ b o, A = some ⟨b, o, none⟩ ∧ b < w.heap.size ∧ w.cell? ⟨b, o + i * 3, none⟩ = some (.int .i64 (C i)) ∧ w.cell? ⟨b, o + i * 3 + 1, none⟩ = some (.string (Nm i)) ∧ w.cell? ⟨b, o + i * 3 + 2, none⟩ = some (.int .i64 (T i)) ∧
      (-9223372036854775808 ≤ C i ∧ C i ≤ 9223372036854775807) ∧ (Nm i).size ≤ maxLen ∧ -9223372036854775808 ≤ T i ∧ T i ≤ 9223372036854775807
theorem RActR.below {w w' : World} {A : Option Addr} {n c : Nat} {C : Nat → Int} {Nm : Nat → ByteArray} {T : Nat → Int} (h : RActR w A n c C Nm T) (e : Below w.heap.size w w') : RActR w' A n c C Nm T := by
  refine ⟨h.1, h.2.1, fun i hi => ?_⟩
  obtain ⟨b, o, h1, h2, h3, h4, h5, h6⟩ := h.2.2 i hi
  exact ⟨b, o, h1, Nat.lt_of_lt_of_le h2 e.size, by rw [e.cell h2]; exact h3, by rw [e.cell h2]; exact h4, by rw [e.cell h2]; exact h5, h6⟩

set_option maxHeartbeats 1000000 in
theorem long_any {w : World} {A : Option Addr} {n c : Nat} {C : Nat → Int} {Nm : Nat → ByteArray} {T : Nat → Int} (h : RActR w A n c C Nm T) :
    Calls Try.prog 13 #[.slice A n c] w fun e w' => ∃ b : Bool, e = .returned (.bool b) ∧ w = w' := by
  have HA := hid h.2.2
  have hn9 : n ≤ 9223372036854775807 := by have := h.1; have := h.2.1; unfold maxLen at *; omega
  have hc9 : c ≤ 9223372036854775807 := by have := h.2.1; unfold maxLen at *; omega
  clear h
  go_enter Try.func13, Try.ntmps13
  go_wp2_with fail
  go_loopw [3] (fun i wr => ∃ k : Nat, k ≤ n ∧ i = .int .i64 k ∧ wr = w) (fun i _ => n - (intOf i).toNat)
  case atStart => exact ⟨0, Nat.zero_le _, rfl, rfl⟩
  case round =>
    obtain ⟨k, hk, rfl, rfl⟩ := hrel
    by_cases hlt : k < n
    · obtain ⟨bl, o, rfl, hbl, s1, s2, s3, b1, b2, b3⟩ := HA.out k hlt
      have hm : (Nm k).size ≤ 9223372036854775807 := by unfold maxLen at b2; omega
      generalize Nm k = nm at *
      clear s1 s3 b1 b2 b3
      by_cases h300 : (300 : Int) < (nm.size : Int)
      · have hd : decide ((300 : Int) < (nm.size : Int)) = true := by rw [decide_eq_true_iff]; exact h300
        go_wp2_with fail
        go_ret
        exact ⟨true, rfl, rfl⟩
      · have hd : decide ((300 : Int) < (nm.size : Int)) = false := by rw [decide_eq_false_iff_not]; exact h300
        clear h300
        go_wp2_with fail
        go_roundw
        case rel => exact ⟨k + 1, by omega, by go_num, trivial⟩
        case measure => simp [intOf]; omega
    · obtain rfl : k = n := by omega
      clear hlt hk
      go_wp2_with fail
      go_ret
      exact ⟨_, rfl, rfl⟩
end Go.Proofs.Ytnoepnbgnlolbaa

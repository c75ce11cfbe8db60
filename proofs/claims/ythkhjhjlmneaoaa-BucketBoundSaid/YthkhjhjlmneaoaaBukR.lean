/- BucketBound, whole. -/
import Derived.Test.YthkhjhjlmneaoaaBukQ
namespace Go.Proofs.Ythkhjhjlmneaoaa
open Go.BK Go.RowKit
theorem bound_walk (rate burst now : Int) {A : Option Addr} {n c : Nat} {N B : Nat → Int} (w : World) (hr : -9223372036854775808 ≤ rate ∧ rate ≤ 9223372036854775807) (hb : -9223372036854775808 ≤ burst ∧ burst ≤ 9223372036854775807) (hw : -9223372036854775808 ≤ now ∧ now ≤ 9223372036854775807) (hA : AskR w A n c N B) :
    Calls Try.prog 8 #[.int .i64 rate, .int .i64 burst, .int .i64 now, .slice A n c] w fun e w' => e = .returned (.bool true) ∧ Below w.heap.size w w' := by
  by_cases hz : rate < 0 ∨ (1073741824 : Int) < rate ∨ burst < 0 ∨ (1073741824 : Int) < burst ∨ now < 0 ∨ (1073741824 : Int) < now ∨ 60 < n
  · exact bound_out rate burst now w hr hb hw hA hz
  · obtain ⟨r, rfl⟩ : ∃ r : Nat, rate = r := ⟨rate.toNat, by omega⟩
    obtain ⟨b, rfl⟩ : ∃ b : Nat, burst = b := ⟨burst.toNat, by omega⟩
    obtain ⟨m, rfl⟩ : ∃ m : Nat, now = m := ⟨now.toNat, by omega⟩
    exact bound_in r b m w (by omega) (by omega) (by omega) (by omega) hA
end Go.Proofs.Ythkhjhjlmneaoaa

/- A part of the contracts of the small functions that the statements share. -/
import Derived.Test.YtholjbnggnfapaaKBase
namespace Go.Proofs.Ytholjbnggnfapaa
open Go.BK Go.RowKit
set_option linter.unusedVariables false

set_option maxHeartbeats 400000 in
/-- SameBytes: whether two lists of bytes are the same. -/
theorem same_bytes {A B : Option Addr} {ca cb : Nat} {a b : List UInt8} {w : World} (ha : Rd w A ca a) (hb : Rd w B cb b) :
    Calls Try.prog 20 #[.slice A a.length ca, .slice B b.length cb] w fun e w' => e = .returned (.bool (a == b)) ∧ w = w' := by
  have h1 := run_convert_rd (P := Try.prog) ha 22 5 Try.underlying22 Try.underlying5 9 Try.underlying9
  have h2 := run_convert_rd (P := Try.prog) hb 22 5 Try.underlying22 Try.underlying5 9 Try.underlying9
  clear ha hb
  go_enter Try.func20, Try.ntmps20
  go_wp2
  go_ret
  exact ⟨ret_bool rfl, rfl⟩
theorem same_bytes_n {A B : Option Addr} {ca cb n m : Nat} {a b : List UInt8} {w : World} (ha : Rd w A ca a) (hb : Rd w B cb b) (hn : a.length = n) (hm : b.length = m) :
    Calls Try.prog 20 #[.slice A n ca, .slice B m cb] w fun e w' => e = .returned (.bool (a == b)) ∧ w = w' := by
  subst hn; subst hm; exact same_bytes ha hb
theorem same_yes {A B : Option Addr} {ca cb n : Nat} {a : List UInt8} {w : World} (ha : Rd w A ca a) (hb : Rd w B cb a) (hn : a.length = n) :
    Calls Try.prog 20 #[.slice A n ca, .slice B n cb] w fun e w' => e = .returned (.bool true) ∧ w = w' := by
  subst hn
  refine (same_bytes ha hb).mono ?_
  rintro e w' ⟨rfl, hw⟩
  exact ⟨ret_bool (by simp), hw⟩

end Go.Proofs.Ytholjbnggnfapaa

/- Layer 19: the limiter's keys. -/
import Derived.Test.YtnoepnbgnlolbaaKitU
import Derived.Test.YtnoepnbgnlolbaaKBase
import Derived.DeepKeys5
import Derived.Maps.Keyed
import Derived.ProofKit
namespace Go.Proofs.Ytnoepnbgnlolbaa
open Go.BK Go.RowKit Go.Maps
set_option linter.unusedVariables false
def kv (c : Int) (n : ByteArray) : Value := .agg #[.int .i64 c, .string n]
theorem laidOutP : laidOutB Try.prog = true := by kernel_rfl
theorem keyed : Keyed Try.prog 46 := Keyed.of_law (deep_law_gate laidOutP (by decide +kernel) (by decide +kernel) (by kernel_rfl) (by kernel_rfl))
theorem cells_key : Try.prog.cellsOf 46 = 2 := by kernel_rfl
theorem cells_int : Try.prog.cellsOf 3 = 1 := by kernel_rfl
theorem cells_str : Try.prog.cellsOf 9 = 1 := by kernel_rfl
theorem kt_key : Try.prog.keyType 46 = true := by kernel_rfl
theorem types_pos : Try.prog.types.size ≠ 0 := by decide +kernel
theorem key_mk (c : Int) (n : ByteArray) (hc : -9223372036854775808 ≤ c ∧ c ≤ 9223372036854775807) (hn : n.size ≤ maxLen) : ∃ l, keyOf Try.prog 46 (kv c n) = some l := by
  have hu := Try.underlying46
  have h3 := Try.underlying3
  have h9 := Try.underlying9
  have hw : (Lit.int .i64 c).wf = true := by simp [Lit.wf, IntKind.min, IntKind.max, IntKind.bits, IntKind.signed]; omega
  obtain ⟨m, hm⟩ := Nat.exists_eq_add_one_of_ne_zero types_pos
  unfold keyOf
  rw [hu]
  simp only [kt_key, Bool.true_and]
  rw [if_pos (by simp [kv, Value.formed, hu, cells_key])]
  rw [hm]
  unfold Program.keyLits
  simp [hu, kv, Value.cells, cells_key]
  unfold Program.keyLits
  simp [h3, h9, cells_int, cells_str, hw, hn]
end Go.Proofs.Ytnoepnbgnlolbaa

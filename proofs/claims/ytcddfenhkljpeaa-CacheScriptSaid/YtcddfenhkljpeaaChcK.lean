import Derived.Test.YtcddfenhkljpeaaCsA
import Derived.DeepKeys5
import Derived.Maps.Keyed
import Derived.ProofKit
/- Layer 23: the cache's keys. -/
namespace Go.Proofs.Ytcddfenhkljpeaa
open Go.BK Go.RowKit Go.Maps
set_option linter.unusedVariables false
def kv (n : ByteArray) (c : Int) : Value := .agg #[.string n, .int .i64 c]
theorem laidOutP : laidOutB Try.prog = true := by kernel_rfl
theorem keyed : Keyed Try.prog 77 := Keyed.of_law (deep_law_gate laidOutP (by decide +kernel) (by decide +kernel) (by kernel_rfl) (by kernel_rfl))
theorem cells_key : Try.prog.cellsOf 77 = 2 := by kernel_rfl
theorem cells_int : Try.prog.cellsOf 3 = 1 := by kernel_rfl
theorem cells_str : Try.prog.cellsOf 9 = 1 := by kernel_rfl
theorem kt_key : Try.prog.keyType 77 = true := by kernel_rfl
theorem types_pos : Try.prog.types.size ≠ 0 := by decide +kernel
theorem key_mk (n : ByteArray) (c : Int) (hc : -9223372036854775808 ≤ c ∧ c ≤ 9223372036854775807) (hn : n.size ≤ maxLen) : ∃ l, keyOf Try.prog 77 (kv n c) = some l := by
  have hu := Try.underlying77
  have h3 := Try.underlying3
  have h9 := Try.underlying9
  have hw : (Lit.int .i64 c).wf = true := by simp [Lit.wf, IntKind.min, IntKind.max, IntKind.bits, IntKind.signed]; omega
  obtain ⟨m, hm⟩ := Nat.exists_eq_add_one_of_ne_zero types_pos
  unfold keyOf
  rw [hu]
  simp only [kt_key, Bool.true_and]
  rw [if_pos (by simp [kv, Value.formed, hu, cells_key])]
  rw [hm]
  unfold Program.keyLits
  simp [hu, kv, Value.cells, cells_key]
  unfold Program.keyLits
  simp [h3, h9, cells_int, cells_str, hw, hn]
noncomputable def kl (n : ByteArray) (c : Int) : Lit := (keyOf Try.prog 77 (kv n c)).getD (.bool false)
def wfK (n : ByteArray) (c : Int) : Prop := (-9223372036854775808 ≤ c ∧ c ≤ 9223372036854775807) ∧ n.size ≤ maxLen
theorem kl_key {n : ByteArray} {c : Int} (h : wfK n c) : keyOf Try.prog 77 (kv n c) = some (kl n c) := by
  obtain ⟨l, hl⟩ := key_mk n c h.1 h.2
  unfold kl
  rw [hl]; rfl
theorem kl_inj {n m : ByteArray} {c d : Int} (h : wfK n c) (k : wfK m d) (e : kl n c = kl m d) : n = m ∧ c = d := by
  have h2 := kl_key k
  rw [← e] at h2
  have := keyed.inj (kl_key h) h2
  unfold kv at this
  simpa using this
end Go.Proofs.Ytcddfenhkljpeaa

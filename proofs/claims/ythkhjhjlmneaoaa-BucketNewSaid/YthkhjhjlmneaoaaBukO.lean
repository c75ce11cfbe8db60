/- BucketBound: within any span no more is taken than burst and rate tell. -/
import Derived.Test.YthkhjhjlmneaoaaBukD
import Derived.Test.YthkhjhjlmneaoaaBukP
import Derived.Test.YthkhjhjlmneaoaaKStep
import Derived.Deep.DeepCutAuto
import Derived.Deep.CutBlock
namespace Go.Proofs.Ythkhjhjlmneaoaa
open Go.BK Go.RowKit
set_option linter.unusedVariables false

def isI (v : Value) : Prop := ∃ n : Int, v = .int .i64 n
theorem isI.one {v : Value} (h : isI v) : v.oneCell' = true := by obtain ⟨n, rfl⟩ := h; rfl
def iv (n : Nat) : Value := .int .i64 n
theorem info_int : (Try.prog.info? 3).map (fun i => (i.zero, i.size, i.bytes)) = some (some (.int .i64 0), 1, 8) := by kernel_rfl
theorem info_parts {o : Option TypeInfo} {z : Option Value} {s b : Nat} (h : o.map (fun i => (i.zero, i.size, i.bytes)) = some (z, s, b)) : ∃ i, o = some i ∧ i.zero = z ∧ i.size = s ∧ i.bytes = b := by
  cases o with
  | none => simp at h
  | some i => simp at h; exact ⟨i, rfl, h.1, h.2.1, h.2.2⟩
/-- A slice of asks. -/
def AskR (w : World) (A : Option Addr) (n c : Nat) (N B : Nat → Int) : Prop :=
  n ≤ c ∧ c ≤ maxLen ∧ ∀ i, i < n → ∃ b o, A = some ⟨b, o, none⟩ ∧ b < w.heap.size ∧ w.cell? ⟨b, o + i * 2, none⟩ = some (.int .i64 (N i)) ∧ w.cell? ⟨b, o + i * 2 + 1, none⟩ = some (.int .i64 (B i)) ∧
    (-9223372036854775808 ≤ N i ∧ N i ≤ 9223372036854775807) ∧ -9223372036854775808 ≤ B i ∧ B i ≤ 9223372036854775807
theorem AskR.ext {w w' : World} {A : Option Addr} {n c : Nat} {N B : Nat → Int} (h : AskR w A n c N B) (e : Ext w w') : AskR w' A n c N B :=
  ⟨h.1, h.2.1, fun i hi => by
    obtain ⟨b, o, h1, h2, h3, h4, h5⟩ := h.2.2 i hi
    exact ⟨b, o, h1, Nat.lt_of_lt_of_le h2 e.size, by rw [e.cell h2]; exact h3, by rw [e.cell h2]; exact h4, h5⟩⟩

set_option maxRecDepth 100000 in
set_option maxHeartbeats 8000000 in
theorem bound_out (rate burst now : Int) {A : Option Addr} {n c : Nat} {N B : Nat → Int} (w : World) (hr : -9223372036854775808 ≤ rate ∧ rate ≤ 9223372036854775807) (hb : -9223372036854775808 ≤ burst ∧ burst ≤ 9223372036854775807) (hw : -9223372036854775808 ≤ now ∧ now ≤ 9223372036854775807) (hA : AskR w A n c N B) (hz : rate < 0 ∨ (1073741824 : Int) < rate ∨ burst < 0 ∨ (1073741824 : Int) < burst ∨ now < 0 ∨ (1073741824 : Int) < now ∨ 60 < n) :
    Calls Try.prog 8 #[.int .i64 rate, .int .i64 burst, .int .i64 now, .slice A n c] w fun e w' => e = .returned (.bool true) ∧ Below w.heap.size w w' := by
  have hn9 : n ≤ 9223372036854775807 := by have := hA.1; have := hA.2.1; unfold maxLen at *; omega
  clear hA
  by_cases z1 : rate < 0
  · have fz1 : decide (rate < 0) = true := by rw [decide_eq_true_iff]; exact z1
    clear hz z1
    go_enter Try.func8, Try.ntmps8
    go_wp2_with fail
    refine (known_walk _).mono ?_; rintro e w0 ⟨rfl, B0⟩
    go_wp2_with fail
    go_ret
    exact ⟨rfl, B0⟩
  have fz1 : decide (rate < 0) = false := by rw [decide_eq_false_iff_not]; exact z1
  by_cases z2 : (1073741824 : Int) < rate
  · have fz2 : decide ((1073741824 : Int) < rate) = true := by rw [decide_eq_true_iff]; exact z2
    clear hz z2
    go_enter Try.func8, Try.ntmps8
    go_wp2_with fail
    refine (known_walk _).mono ?_; rintro e w0 ⟨rfl, B0⟩
    go_wp2_with fail
    go_ret
    exact ⟨rfl, B0⟩
  have fz2 : decide ((1073741824 : Int) < rate) = false := by rw [decide_eq_false_iff_not]; exact z2
  by_cases z3 : burst < 0
  · have fz3 : decide (burst < 0) = true := by rw [decide_eq_true_iff]; exact z3
    clear hz z3
    go_enter Try.func8, Try.ntmps8
    go_wp2_with fail
    refine (known_walk _).mono ?_; rintro e w0 ⟨rfl, B0⟩
    go_wp2_with fail
    go_ret
    exact ⟨rfl, B0⟩
  have fz3 : decide (burst < 0) = false := by rw [decide_eq_false_iff_not]; exact z3
  by_cases z4 : (1073741824 : Int) < burst
  · have fz4 : decide ((1073741824 : Int) < burst) = true := by rw [decide_eq_true_iff]; exact z4
    clear hz z4
    go_enter Try.func8, Try.ntmps8
    go_wp2_with fail
    refine (known_walk _).mono ?_; rintro e w0 ⟨rfl, B0⟩
    go_wp2_with fail
    go_ret
    exact ⟨rfl, B0⟩
  have fz4 : decide ((1073741824 : Int) < burst) = false := by rw [decide_eq_false_iff_not]; exact z4
  by_cases z5 : now < 0
  · have fz5 : decide (now < 0) = true := by rw [decide_eq_true_iff]; exact z5
    clear hz z5
    go_enter Try.func8, Try.ntmps8
    go_wp2_with fail
    refine (known_walk _).mono ?_; rintro e w0 ⟨rfl, B0⟩
    go_wp2_with fail
    go_ret
    exact ⟨rfl, B0⟩
  have fz5 : decide (now < 0) = false := by rw [decide_eq_false_iff_not]; exact z5
  by_cases z6 : (1073741824 : Int) < now
  · have fz6 : decide ((1073741824 : Int) < now) = true := by rw [decide_eq_true_iff]; exact z6
    clear hz z6
    go_enter Try.func8, Try.ntmps8
    go_wp2_with fail
    refine (known_walk _).mono ?_; rintro e w0 ⟨rfl, B0⟩
    go_wp2_with fail
    go_ret
    exact ⟨rfl, B0⟩
  have fz6 : decide ((1073741824 : Int) < now) = false := by rw [decide_eq_false_iff_not]; exact z6
  by_cases z7 : 60 < n
  · have fz7 : decide ((60 : Int) < (n : Int)) = true := by rw [decide_eq_true_iff]; omega
    clear hz z7
    go_enter Try.func8, Try.ntmps8
    go_wp2_with fail
    refine (known_walk _).mono ?_; rintro e w0 ⟨rfl, B0⟩
    go_wp2_with fail
    go_ret
    exact ⟨rfl, B0⟩
  omega
end Go.Proofs.Ythkhjhjlmneaoaa

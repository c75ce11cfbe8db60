/- Layer 19: who is none; and what may not be. -/
import Derived.Test.YtnoepnbgnlolbaaRrlB
namespace Go.Proofs.Ytnoepnbgnlolbaa
open Go.BK Go.RowKit Go.Maps
set_option linter.unusedVariables false
def Zero (w : World) (g : Nat) : Prop := Blk w g 27 #[.int .i64 0, .int .i64 0, .int .i64 0, .int .i64 0, .int .i64 0, .map none, .slice none 0 0]
set_option maxHeartbeats 1000000 in
set_option maxRecDepth 100000 in
theorem judge_nil (c : Int) (n : ByteArray) (t : Int) (w : World) :
    Calls Try.prog 9 #[.pointer none, .int .i64 c, .string n, .int .i64 t] w fun e w' => e = .returned (.int .i64 2) ∧ w = w' := by
  go_enter Try.func9, Try.ntmps9
  go_wp2
  go_ret
  exact ⟨rfl, rfl⟩
set_option maxHeartbeats 1000000 in
set_option maxRecDepth 100000 in
theorem judge_zero (c : Int) (n : ByteArray) (t : Int) (w : World) (g : Nat) (h : Zero w g) :
    Calls Try.prog 9 #[.pointer (some ⟨g, 0, none⟩), .int .i64 c, .string n, .int .i64 t] w fun e w' => e = .returned (.int .i64 2) ∧ w = w' := by
  have c0 : w.cell? ⟨g, 0, none⟩ = some (.int .i64 0) := h.cell 0
  clear h
  go_enter Try.func9, Try.ntmps9
  go_wp2
  go_ret
  exact ⟨rfl, rfl⟩
theorem len_nil (w : World) : Calls Try.prog 10 #[.pointer none] w fun e w' => e = .returned (.int .i64 0) ∧ w = w' := by
  go_enter Try.func10, Try.ntmps10
  go_wp2
  go_ret
  exact ⟨rfl, rfl⟩
theorem len_zero (w : World) (g : Nat) (h : Zero w g) : Calls Try.prog 10 #[.pointer (some ⟨g, 0, none⟩)] w fun e w' => e = .returned (.int .i64 0) ∧ w = w' := by
  have c0 : w.cell? ⟨g, 5, none⟩ = some (.map none) := h.cell 5
  have hl := Maps.len_nil (P := Try.prog) (w := w) (t := 24) Try.underlying24 3
  clear h
  go_enter Try.func10, Try.ntmps10
  go_wp2
  go_ret
  exact ⟨rfl, rfl⟩
theorem count_nil (c : Int) (n : ByteArray) (w : World) : Calls Try.prog 11 #[.pointer none, .int .i64 c, .string n] w fun e w' => e = .returned (.int .i64 0) ∧ w = w' := by
  go_enter Try.func11, Try.ntmps11
  go_wp2
  go_ret
  exact ⟨rfl, rfl⟩
theorem count_zero (c : Int) (n : ByteArray) (w : World) (g : Nat) (h : Zero w g) (hc : -9223372036854775808 ≤ c ∧ c ≤ 9223372036854775807) (hn : n.size ≤ maxLen) : Calls Try.prog 11 #[.pointer (some ⟨g, 0, none⟩), .int .i64 c, .string n] w fun e w' => e = .returned (.int .i64 0) ∧ w = w' := by
  have c0 : w.cell? ⟨g, 5, none⟩ = some (.map none) := h.cell 5
  obtain ⟨l, hl⟩ := key_mk c n hc hn
  have hlk := Maps.look_nil (P := Try.prog) (w := w) (t := 24) true keyed Try.underlying24 (zero_ptr w) hl
  unfold kv at hlk
  simp only [if_true] at hlk
  clear h hl hn
  go_enter Try.func11, Try.ntmps11
  go_wp2
  go_ret
  exact ⟨rfl, rfl⟩
end Go.Proofs.Ytnoepnbgnlolbaa

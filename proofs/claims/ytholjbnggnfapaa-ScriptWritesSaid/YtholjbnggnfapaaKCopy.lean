/- A part of the contracts of the small functions that the statements share. -/
import Derived.Test.YtholjbnggnfapaaKBase
namespace Go.Proofs.Ytholjbnggnfapaa
open Go.BK Go.RowKit
set_option linter.unusedVariables false

set_option maxHeartbeats 400000 in
/-- CopyBytes: the same bytes in memory of the call's own. -/
theorem copy_bytes {A : Option Addr} {c : Nat} {l : List UInt8} {w : World} (h : Rd w A c l) (hl : l.length ≤ 140737488355328) :
    Calls Try.prog 18 #[.slice A l.length c] w fun e w' => ∃ A' c', e = .returned (.slice A' l.length c') ∧ Own w' w.heap.size 5 A' c' l ∧ Ext w w' := by
  obtain ⟨i0, hi, hz0, hz1, hz2⟩ := info_parts info_u8
  have hown := OwnG.new (ok := isU8) (base := w.heap.size) (size := 1) (e := 5) w [] 0 0 (Nat.le_refl _) rfl (Nat.le_refl _) (by simp [maxLen]) (by simp)
  have hr : RdG (w.alloc (.cells #[] 5)) 1 A l.length c (l.map u8v) := RdG.ext h ((Below.refl _ _).alloc (Nat.le_refl _) _)
  have hE : Ext w (w.alloc (.cells #[] 5)) := (Below.refl _ _).alloc (Nat.le_refl _) _
  go_enter Try.func18, Try.ntmps18
  go_wp2_with (at_builtin; refine wpList_append_g rfl (.tmp 3) (.tmp 4) 22 rfl w.heap.size 5 i0 (.int .u8 0) 1 1 Try.underlying22 hi hz0 hz1 hz2 rfl (by decide) (by simp [Value.cells]; exact ⟨0, rfl⟩) (fun _ h => h.one) rfl hown rfl hr (isU8_map l) (by omega) (by unfold maxLen; omega) (by simp) ?_; intro A' c' w' hown' hg' _)
  go_ret
  refine ⟨A', c', ?_, ?_, ?_⟩
  · simp
  · simpa [Own] using hown'
  · exact hE.grown hg' (by simp) (by simp)

end Go.Proofs.Ytholjbnggnfapaa

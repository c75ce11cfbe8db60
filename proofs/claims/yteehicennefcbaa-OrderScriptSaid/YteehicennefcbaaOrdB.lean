/- order.New and slices.Clone. -/
import Derived.Test.YteehicennefcbaaOrdA
namespace Go.Proofs.Yteehicennefcbaa
open Go.BK Go.RowKit
set_option linter.unusedVariables false

theorem new_no (most : Int) (w : World) (h : most < 1 ∨ 64 < most) :
    Calls Try.prog 10 #[.int .i64 most] w fun e w' => e = .returned (.tuple #[.pointer none, .int .i64 2]) ∧ w = w' := by
  by_cases h1 : most < 1
  · go_enter Try.func10, Try.ntmps10
    go_wp2
    go_ret2
    exact ⟨rfl, rfl⟩
  · have h2 : 64 < most := by omega
    go_enter Try.func10, Try.ntmps10
    go_wp2
    go_ret2
    exact ⟨rfl, rfl⟩

theorem new_ok (most : Nat) (w : World) (h1 : 1 ≤ most) (h2 : most ≤ 64) :
    Calls Try.prog 10 #[.int .i64 most] w fun e w' => ∃ g, e = .returned (.tuple #[.pointer (some ⟨g, 0, none⟩), .int .i64 0]) ∧ WinR (fun k => w.heap.size ≤ k ∧ k < w'.heap.size) w' g most 1 [] ∧ Ext w w' := by
  have q1 : ¬ (most : Int) < 1 := by omega
  have q2 : ¬ 64 < (most : Int) := by omega
  have hmm := @run_makeMap Try.prog
  go_enter Try.func10, Try.ntmps10
  go_wp2
  go_ret2
  have hsz : ∀ (w : World) (o : Obj), (w.alloc o).heap.size = w.heap.size + 1 := by intros; simp
  refine ⟨w.heap.size + 1, rfl, ⟨h1, h2, by omega, ⟨by omega, by rw [hsz, hsz]; omega⟩, w.heap.size, ⟨by omega, by rw [hsz, hsz]; omega⟩, by omega, ?_, ?_, fun x hx => by simp at hx⟩, ext_trans (ext_alloc _ _) (ext_alloc _ _)⟩
  · have := Blk.new (w.alloc (.map #[] 0)) 53 #[.int .i64 most, .int .i64 1, .int .i64 1, .map (some w.heap.size)]
    rw [hsz] at this
    exact this
  · refine ((MapF.made w Try.prog 3).alloc _).congr fun x => ?_
    unfold tab
    split <;> simp

set_option maxHeartbeats 400000 in
/-- slices.Clone: the same bytes in memory of the call's own. -/
theorem clone_bytes {A : Option Addr} {c : Nat} {l : List UInt8} {w : World} (h : Rd w A c l) (hl : l.length ≤ 140737488355328) :
    Calls Try.prog 27 #[.slice A l.length c] w fun e w' => ∃ A' c', e = .returned (.slice A' l.length c') ∧ Own w' w.heap.size 5 A' c' l ∧ Ext w w' := by
  obtain ⟨i0, hi, hz0, hz1, hz2⟩ := info_parts info_u8
  have hown := OwnG.new (ok := isU8) (base := w.heap.size) (size := 1) (e := 5) w [] 0 0 (Nat.le_refl _) rfl (Nat.le_refl _) (by simp [maxLen]) (by simp)
  have hr : RdG (w.alloc (.cells #[] 5)) 1 A l.length c (l.map u8v) := RdG.ext h ((Below.refl _ _).alloc (Nat.le_refl _) _)
  have hE : Ext w (w.alloc (.cells #[] 5)) := (Below.refl _ _).alloc (Nat.le_refl _) _
  have q22 : ∀ (w : World) (a : Option Addr) (n c n' c' : Nat), (binOp .eql 22 (.slice a n c) (.slice none n' c')).run Try.prog w = .ok (.bool a.isNone) w := fun w a n c n' c' => Lib.run_eql_slice_nil w _ _ a n c n' c' Try.underlying22
  cases A with
  | none =>
    have h0 : l = [] := by
      cases l with
      | nil => rfl
      | cons a r => obtain ⟨b, o, e, _⟩ := h.2.2.2 (by simp); cases e
    subst h0
    go_enter Try.func27, Try.ntmps27
    go_wp2
    go_ret
    exact ⟨none, 0, rfl, Own.nil _ _ _, ext_refl _⟩
  | some a =>
    go_enter Try.func27, Try.ntmps27
    go_wp2_with (at_builtin; refine wpList_append_g rfl (.tmp 5) (.tmp 6) 22 rfl w.heap.size 5 i0 (.int .u8 0) 1 1 Try.underlying22 hi hz0 hz1 hz2 rfl (by decide) (by simp [Value.cells]; exact ⟨0, rfl⟩) (fun _ h => h.one) rfl hown rfl hr (isU8_map l) (by omega) (by unfold maxLen; omega) (by simp) ?_; intro A' c' w' hown' hg' _)
    go_ret
    refine ⟨A', c', ?_, ?_, ?_⟩
    · simp
    · simpa [Own] using hown'
    · exact hE.grown hg' (by simp) (by simp)

end Go.Proofs.Yteehicennefcbaa

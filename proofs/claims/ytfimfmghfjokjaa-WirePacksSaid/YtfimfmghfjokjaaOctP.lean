/- The contract of octet.Bytes. -/
import Derived.Test.YtfimfmghfjokjaaKSame
import Derived.Test.YtfimfmghfjokjaaOctetA
import Derived.Recover
namespace Go.Proofs.Ytfimfmghfjokjaa
open Go.BK Go.RowKit
set_option linter.unusedVariables false

theorem Bytes_none_own (w : World) (base : Nat) : Own w base 5 none 0 [] := Own.nil _ _ _

set_option maxHeartbeats 1000000 in
/-- octet.Bytes. -/
theorem bytes_any {A : Option Addr} {c : Nat} {l : List UInt8} {w : World} (a n : Int) (h : Rd w A c l) (hl : l.length ≤ 140737488355328) (ha : -9223372036854775808 ≤ a ∧ a ≤ 9223372036854775807) (hn : -9223372036854775808 ≤ n ∧ n ≤ 9223372036854775807) :
    Calls Try.prog 27 #[.slice A l.length c, .int .i64 a, .int .i64 n] w fun e w' => ∃ A' c', e = .returned (.tuple #[.slice A' (bytesS l a n).1.length c', .int .i64 (bytesS l a n).2.1, .agg #[.int .i64 (bytesS l a n).2.2.1, .int .i64 (bytesS l a n).2.2.2]]) ∧ Own w' w.heap.size 5 A' c' (bytesS l a n).1 ∧ Ext w w' := by
  obtain ⟨i0, hi, hz0, hz1, hz2⟩ := info_parts info_u8
  have hle := h.le
  have hcl := h.c_le
  by_cases h1 : n < 0
  · have e1 : bytesS l a n = ([], 0, 2, 0) := by unfold bytesS; rw [if_pos h1]
    rw [e1]
    go_enter Try.func27, Try.ntmps27
    go_wp2
    go_returns
    exact ⟨none, 0, rfl, Own.nil _ _ _, by go_grown⟩
  · by_cases h2 : a < 0
    · have e1 : bytesS l a n = ([], 0, 5, 0) := by unfold bytesS; rw [if_neg h1, if_pos (.inl h2)]
      rw [e1]
      go_enter Try.func27, Try.ntmps27
      go_wp2
      go_returns
      exact ⟨none, 0, rfl, Own.nil _ _ _, by go_grown⟩
    · by_cases h3 : (l.length : Int) < a
      · have e1 : bytesS l a n = ([], 0, 5, 0) := by unfold bytesS; rw [if_neg h1, if_pos (.inr h3)]
        rw [e1]
        go_enter Try.func27, Try.ntmps27
        go_wp2
        go_returns
        exact ⟨none, 0, rfl, Own.nil _ _ _, by go_grown⟩
      · by_cases h4 : (l.length : Int) - a < n
        · have e1 : bytesS l a n = ([], 0, 4, (l.length : Int)) := by unfold bytesS; rw [if_neg h1, if_neg (by omega), if_pos h4]
          rw [e1]
          go_enter Try.func27, Try.ntmps27
          go_wp2
          go_returns
          exact ⟨none, 0, rfl, Own.nil _ _ _, by go_grown⟩
        · obtain ⟨i, rfl⟩ := Int.eq_ofNat_of_zero_le (show 0 ≤ a by omega)
          obtain ⟨k, rfl⟩ := Int.eq_ofNat_of_zero_le (show 0 ≤ n by omega)
          have hik : i + k ≤ l.length := by omega
          have e1 : bytesS l i k = ((l.drop i).take k, (i : Int) + k, 0, 0) := by unfold bytesS; rw [if_neg h1, if_neg (by omega), if_neg h4]; simp
          have e2 : ((l.drop i).take k).length = k := by simp; omega
          rw [e1]
          simp only [e2]
          have hown : ∀ (W : World) (g : Nat), g = W.heap.size → w.heap.size + 1 ≤ W.heap.size → OwnG isU8 (W.alloc (.cells #[] 5)) (w.heap.size + 1) 5 1 (some ⟨g, 0, none⟩) 0 0 [] := by
            intro W g hg hW; subst hg
            exact OwnG.new (ok := isU8) (size := 1) W [] 0 0 hW rfl (Nat.le_refl _) (by simp [maxLen]) (by simp)
          have hcm := h.2.2.1
          by_cases hci : c = i
          · subst hci
            obtain rfl : k = 0 := by omega
            have hr : ∀ W : World, RdG W 1 A 0 0 [] := fun W => RdG.zero W 1 A 0 (by simp [maxLen])
            clear h
            go_enter Try.func27, Try.ntmps27
            go_wp2_with (at_builtin; refine wpList_append_g rfl (.tmp 33) (.tmp 39) 22 rfl (w.heap.size + 1) 5 i0 (.int .u8 0) 1 1 Try.underlying22 hi hz0 hz1 hz2 rfl (by decide) (by simp [Value.cells]; exact ⟨0, rfl⟩) (fun _ h => h.one) rfl (hown _ _ (by simp) (by simp <;> omega)) rfl (hr _) (by simp) (by omega) (by unfold maxLen; omega) (by simp <;> omega) ?_; intro A' c' w' hown' hg' _; have hbw : Below w.heap.size w w' := Below.grown (w := (w.alloc (.cells #[.int .i64 0, .int .i64 0] 26)).alloc (.cells #[] 5)) (by go_grown) hg' (by simp <;> omega) (by simp); obtain ⟨hq1, hq2, hq3⟩ := (Blk.grown (Blk.alloc (Blk.new w 26 #[.int .i64 0, .int .i64 0]) (.cells #[] 5)) hg' (by simp)).two)
            refine bodyPost_ret (by simp [results, Try.results27, go_sem, hq1, hq2]; rfl) rfl ?_
            exact ⟨A', c', by simp, Own.mono (Own.far (Own.far (by simpa [Own] using hown') (by simp) _) (by simp) _) (by omega), by go_grown⟩
          · have hr : ∀ W : World, Ext w W → RdG W 1 (A.map (fun x => x.add i)) (i + k - i) (c - i) (((l.drop i).take k).map u8v) := by
              intro W hW
              have := Rd.cut (h.ext hW) (i := i) (j := i + k) (by omega) hik (A' := A.map (·.add i)) (fun _ => rfl)
              rw [List.drop_take, Nat.add_sub_cancel_left] at this
              unfold Rd at this
              rw [e2] at this
              rwa [Nat.add_sub_cancel_left]
            have hlt : i < c := by omega
            clear h
            go_enter Try.func27, Try.ntmps27
            go_wp2_with (at_builtin; refine wpList_append_g rfl (.tmp 33) (.tmp 39) 22 rfl (w.heap.size + 1) 5 i0 (.int .u8 0) 1 1 Try.underlying22 hi hz0 hz1 hz2 rfl (by decide) (by simp [Value.cells]; exact ⟨0, rfl⟩) (fun _ h => h.one) rfl (hown _ _ (by simp) (by simp <;> omega)) rfl (by exact hr _ (by go_grown)) (isU8_map _) (by omega) (by unfold maxLen; omega) (by simp <;> omega) ?_; intro A' c' w' hown' hg' _; have hbw : Below w.heap.size w w' := Below.grown (w := (w.alloc (.cells #[.int .i64 0, .int .i64 0] 26)).alloc (.cells #[] 5)) (by go_grown) hg' (by simp <;> omega) (by simp); obtain ⟨hq1, hq2, hq3⟩ := (Blk.grown (Blk.alloc (Blk.new w 26 #[.int .i64 0, .int .i64 0]) (.cells #[] 5)) hg' (by simp)).two)
            refine bodyPost_ret (by simp [results, Try.results27, go_sem, hq1, hq2]; rfl) rfl ?_
            exact ⟨A', c', by simp, Own.mono (Own.far (Own.far (by unfold Own; rw [e2]; simpa using hown') (by simp) _) (by simp) _) (by omega), by go_grown⟩


end Go.Proofs.Ytfimfmghfjokjaa

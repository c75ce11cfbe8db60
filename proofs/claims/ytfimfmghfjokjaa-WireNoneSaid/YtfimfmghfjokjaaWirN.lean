/- WireNone: a packer that is nil, or that New did not make, answers ErrNil, and knows nothing. -/
import Derived.Test.YtfimfmghfjokjaaWirW
import Derived.Test.YtfimfmghfjokjaaKitM
namespace Go.Proofs.Ytfimfmghfjokjaa
open Go.BK Go.RowKit
set_option linter.unusedVariables false
def Zero (w : World) (g : Nat) : Prop := Blk w g 47 #[.map none, .int .i64 0]
def pvN (zb k : Nat) : Option Addr := if k = 0 then none else some ⟨zb, 0, none⟩
set_option maxHeartbeats 1000000 in
set_option maxRecDepth 100000 in
theorem name_nil (a : Int) (n : ByteArray) (w : World) : Calls Try.prog 19 #[.pointer none, .int .i64 a, .string n] w fun e w' => e = .returned (.tuple #[.slice none 0 0, .int .i64 1]) ∧ w = w' := by
  go_enter Try.func19, Try.ntmps19
  go_wp2
  go_ret2
  exact ⟨rfl, rfl⟩
set_option maxHeartbeats 1000000 in
set_option maxRecDepth 100000 in
theorem name_zero (a : Int) (n : ByteArray) (w : World) (g : Nat) (h : Zero w g) : Calls Try.prog 19 #[.pointer (some ⟨g, 0, none⟩), .int .i64 a, .string n] w fun e w' => e = .returned (.tuple #[.slice none 0 0, .int .i64 1]) ∧ w = w' := by
  have c0 : w.cell? ⟨g, 0, none⟩ = some (.map none) := h.cell 0
  have hq := run_eql_map_nil (P := Try.prog) w 45 _ _ none Try.underlying45
  clear h
  go_enter Try.func19, Try.ntmps19
  go_wp2
  go_ret2
  exact ⟨rfl, rfl⟩
theorem known_nil (w : World) : Calls Try.prog 20 #[.pointer none] w fun e w' => e = .returned (.int .i64 0) ∧ w = w' := by
  go_enter Try.func20, Try.ntmps20
  go_wp2
  go_ret
  exact ⟨rfl, rfl⟩
theorem known_zero (w : World) (g : Nat) (h : Zero w g) : Calls Try.prog 20 #[.pointer (some ⟨g, 0, none⟩)] w fun e w' => e = .returned (.int .i64 0) ∧ w = w' := by
  have c0 : w.cell? ⟨g, 0, none⟩ = some (.map none) := h.cell 0
  have hl := Maps.len_nil (P := Try.prog) (w := w) (t := 45) Try.underlying45 3
  clear h
  go_enter Try.func20, Try.ntmps20
  go_wp2
  go_ret
  exact ⟨rfl, rfl⟩
set_option maxHeartbeats 4000000 in
set_option maxRecDepth 100000 in
theorem none_walk (a : Int) (s : ByteArray) (w : World) (ha : -9223372036854775808 ≤ a ∧ a ≤ 9223372036854775807) (hs : s.size ≤ maxLen) :
    Calls Try.prog 6 #[.int .i64 a, .string s] w fun e w' => e = .returned (.bool true) ∧ Below w.heap.size w w' := by
  by_cases h1 : 400 < s.size
  · have q1 : decide ((400 : Int) < (s.size : Int)) = true := by simp; omega
    go_enter Try.func6, Try.ntmps6
    go_wp2_with fail
    refine (awake_yes _).mono ?_
    rintro e w1 ⟨rfl, x1⟩
    go_wp2_with fail
    go_ret
    exact ⟨rfl, x1⟩
  have q1 : decide ((400 : Int) < (s.size : Int)) = false := by simp; omega
  go_enter Try.func6, Try.ntmps6
  go_wp2_with fail
  have KZ : Zero ((w.alloc (.cells #[.map none, .int .i64 0] 47)).alloc (.cells #[.pointer none, .pointer (some ⟨w.heap.size, 0, none⟩)] 35)) w.heap.size := (Blk.new w 47 _).alloc _
  have KL := Blk.new (w.alloc (.cells #[.map none, .int .i64 0] 47)) 35 #[.pointer none, .pointer (some ⟨w.heap.size, 0, none⟩)]
  have hx : Ext w ((w.alloc (.cells #[.map none, .int .i64 0] 47)).alloc (.cells #[.pointer none, .pointer (some ⟨w.heap.size, 0, none⟩)] 35)) := ext_trans (ext_alloc _ _) (ext_alloc _ _)
  rw [show (w.alloc (.cells #[.map none, .int .i64 0] 47)).heap.size = w.heap.size + 1 from by simp] at KL
  generalize (w.alloc (.cells #[.map none, .int .i64 0] 47)).alloc (.cells #[.pointer none, .pointer (some ⟨w.heap.size, 0, none⟩)] 35) = w2 at KZ KL hx ⊢
  have CJ : ∀ k, k < 2 → Calls Try.prog 19 #[.pointer (pvN w.heap.size k), .int .i64 a, .string s] w2 fun e w' => e = .returned (.tuple #[.slice none 0 0, .int .i64 1]) ∧ w2 = w' := by
    intro k hk
    rcases (show k = 0 ∨ k = 1 by omega) with rfl | rfl
    · exact name_nil a s w2
    · exact name_zero a s w2 _ KZ
  have CL : ∀ k, k < 2 → Calls Try.prog 20 #[.pointer (pvN w.heap.size k)] w2 fun e w' => e = .returned (.int .i64 0) ∧ w2 = w' := by
    intro k hk
    rcases (show k = 0 ∨ k = 1 by omega) with rfl | rfl
    · exact known_nil w2
    · exact known_zero w2 _ KZ
  have HK := hid KL
  have HX := hid hx
  have CJ := hid CJ
  have CL := hid CL
  clear KZ KL hx ha hs
  go_loop [6] (fun i => ∃ k : Nat, k ≤ 2 ∧ i = .int .i64 k) (fun i => 2 - (intOf i).toNat)
  case atStart => exact ⟨0, Nat.zero_le _, rfl⟩
  case round =>
    obtain ⟨k, hk, rfl⟩ := hrel
    by_cases hlt : k < 2
    · have hcell : w2.cell? ⟨w.heap.size + 1, k, none⟩ = some (.pointer (pvN w.heap.size k)) := by
        rw [HK.out.cell k]
        rcases (show k = 0 ∨ k = 1 by omega) with rfl | rfl <;> rfl
      have c1 := hid (CJ.out k hlt)
      have c2 := hid (CL.out k hlt)
      generalize pvN w.heap.size k = q at hcell c1 c2
      go_wp2_with fail
      refine c1.out.mono ?_
      rintro e _ ⟨rfl, rfl⟩
      go_wp2_with fail
      refine c2.out.mono ?_
      rintro e _ ⟨rfl, rfl⟩
      go_wp2_with fail
      go_round
      case rel => exact ⟨k + 1, by omega, by go_num⟩
      case measure => simp [intOf]; omega
    · obtain rfl : k = 2 := by omega
      go_wp2_with fail
      refine (awake_yes _).mono ?_
      rintro e w3 ⟨rfl, x3⟩
      go_wp2_with fail
      go_ret
      exact ⟨rfl, ext_trans HX.out x3⟩
end Go.Proofs.Ytfimfmghfjokjaa

/- BucketNone: a bucket that is none, or that New did not make, tells nothing. -/
import Derived.Test.YthkhjhjlmneaoaaBukD
namespace Go.Proofs.Ythkhjhjlmneaoaa
open Go.BK Go.RowKit
set_option linter.unusedVariables false

def NoB (w : World) (p : Option Addr) : Prop := p = none ∨ ∃ g, p = some ⟨g, 0, none⟩ ∧ Blk w g 48 #[.bool false, .int .i64 0, .int .i64 0, .int .i64 0, .int .i64 0]
section
variable {w : World} {p : Option Addr}
theorem nob_none (h : NoB w p) : Calls Try.prog 23 #[.pointer p] w fun e w' => e = .returned (.bool true) ∧ w = w' := by
  rcases h with rfl | ⟨g, rfl, hb⟩
  · go_enter Try.func23, Try.ntmps23
    go_wp2
    go_ret
    exact ⟨rfl, rfl⟩
  · have q := hb.cell 0
    simp only [List.getElem?_toArray, List.getElem?_cons_zero] at q
    clear hb
    go_enter Try.func23, Try.ntmps23
    go_wp2
    go_ret
    exact ⟨rfl, rfl⟩
theorem nob_Take (n now : Int) (h : NoB w p) : Calls Try.prog 12 #[.pointer p, .int .i64 n, .int .i64 now] w fun e w' => e = .returned (.bool false) ∧ w = w' := by
  have hn := nob_none h
  go_enter Try.func12, Try.ntmps12
  go_wp2_with fail
  refine hn.mono ?_; rintro e w1 ⟨rfl, rfl⟩
  go_wp2_with fail
  go_ret
  exact ⟨rfl, rfl⟩
theorem nob_Tokens (now : Int) (h : NoB w p) : Calls Try.prog 14 #[.pointer p, .int .i64 now] w fun e w' => e = .returned (.int .i64 0) ∧ w = w' := by
  have hn := nob_none h
  go_enter Try.func14, Try.ntmps14
  go_wp2_with fail
  refine hn.mono ?_; rintro e w1 ⟨rfl, rfl⟩
  go_wp2_with fail
  go_ret
  exact ⟨rfl, rfl⟩
theorem nob_Full (now : Int) (h : NoB w p) : Calls Try.prog 13 #[.pointer p, .int .i64 now] w fun e w' => e = .returned (.bool false) ∧ w = w' := by
  have hn := nob_none h
  go_enter Try.func13, Try.ntmps13
  go_wp2_with fail
  refine hn.mono ?_; rintro e w1 ⟨rfl, rfl⟩
  go_wp2_with fail
  go_ret
  exact ⟨rfl, rfl⟩
theorem nob_When (n now : Int) (h : NoB w p) : Calls Try.prog 15 #[.pointer p, .int .i64 n, .int .i64 now] w fun e w' => e = .returned (.int .i64 0) ∧ w = w' := by
  have hn := nob_none h
  go_enter Try.func15, Try.ntmps15
  go_wp2_with fail
  refine hn.mono ?_; rintro e w1 ⟨rfl, rfl⟩
  go_wp2_with fail
  go_ret
  exact ⟨rfl, rfl⟩
end

set_option maxRecDepth 100000 in
set_option maxHeartbeats 2000000 in
theorem none_walk (n now : Int) (w : World) (hn : -9223372036854775808 ≤ n ∧ n ≤ 9223372036854775807) (hw : -9223372036854775808 ≤ now ∧ now ≤ 9223372036854775807) :
    Calls Try.prog 6 #[.int .i64 n, .int .i64 now] w fun e w' => e = .returned (.bool true) ∧ Below w.heap.size w w' := by
  go_enter Try.func6, Try.ntmps6
  go_wp2_with fail
  have hb := Blk.new w 48 #[.bool false, .int .i64 0, .int .i64 0, .int .i64 0, .int .i64 0]
  have E : Ext w ((w.alloc (.cells #[.bool false, .int .i64 0, .int .i64 0, .int .i64 0, .int .i64 0] 48)).alloc (.cells #[.pointer none, .pointer (some ⟨w.heap.size, 0, none⟩)] 24)) := ext_trans (ext_alloc _ _) (ext_alloc _ _)
  have hl := Blk.new (w.alloc (.cells #[.bool false, .int .i64 0, .int .i64 0, .int .i64 0, .int .i64 0] 48)) 24 #[.pointer none, .pointer (some ⟨w.heap.size, 0, none⟩)]
  have hb := hb.alloc (.cells #[.pointer none, .pointer (some ⟨w.heap.size, 0, none⟩)] 24)
  rw [show (w.alloc (.cells #[.bool false, .int .i64 0, .int .i64 0, .int .i64 0, .int .i64 0] 48)).heap.size = w.heap.size + 1 from by simp] at hl
  generalize (w.alloc (.cells #[.bool false, .int .i64 0, .int .i64 0, .int .i64 0, .int .i64 0] 48)).alloc (.cells #[.pointer none, .pointer (some ⟨w.heap.size, 0, none⟩)] 24) = W at *
  have hp : ∀ k, k < 2 → ∃ p, W.cell? ⟨w.heap.size + 1, k, none⟩ = some (.pointer p) ∧ NoB W p := fun k hk => by
    rcases k with _ | _ | k
    · exact ⟨none, hl.cell 0, .inl rfl⟩
    · exact ⟨some ⟨w.heap.size, 0, none⟩, hl.cell 1, .inr ⟨_, rfl, hb⟩⟩
    · omega
  have HP := hid hp
  have HE := hid E
  clear hb hl hp E
  go_loopw [7] (fun i wr => ∃ k : Nat, k ≤ 2 ∧ i = .int .i64 k ∧ wr = W) (fun i _ => 2 - (intOf i).toNat)
  case atStart => exact ⟨0, by omega, rfl, rfl⟩
  case round =>
    obtain ⟨k, hk, rfl, rfl⟩ := hrel
    by_cases hlt : k < 2
    · obtain ⟨q, hc, hq⟩ := HP.out k hlt
      have h1 := hid (nob_Take n now hq)
      have h2 := hid (nob_Tokens now hq)
      have h3 := hid (nob_Full now hq)
      have h4 := hid (nob_When n now hq)
      clear hq
      go_wp2_with fail
      refine h1.out.mono ?_; rintro e w1 ⟨rfl, hw⟩; subst hw
      go_wp2_with fail
      refine h2.out.mono ?_; rintro e w1 ⟨rfl, hw⟩; subst hw
      go_wp2_with fail
      refine h3.out.mono ?_; rintro e w1 ⟨rfl, hw⟩; subst hw
      go_wp2_with fail
      refine h4.out.mono ?_; rintro e w1 ⟨rfl, hw⟩; subst hw
      go_wp2_with fail
      go_roundw
      case rel => exact ⟨k + 1, by omega, by go_num, trivial⟩
      case measure => simp [intOf]; omega
    · have hke : k = 2 := by omega
      subst hke
      clear hlt hk
      go_wp2_with fail
      refine (awake_yes _).mono ?_; rintro e w1 ⟨rfl, B1⟩
      have BZ := below_ext HE.out HE.out.size B1
      go_wp2_with fail
      go_ret
      exact ⟨rfl, BZ⟩
end Go.Proofs.Ythkhjhjlmneaoaa
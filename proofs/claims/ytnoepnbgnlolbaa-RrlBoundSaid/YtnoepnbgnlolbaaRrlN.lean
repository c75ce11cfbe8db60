/- RrlNone: who is none lets nothing pass; with some of the chapter's examples. -/
import Derived.Test.YtnoepnbgnlolbaaRrlJ
namespace Go.Proofs.Ytnoepnbgnlolbaa
open Go.BK Go.RowKit Go.Maps
set_option linter.unusedVariables false
def wantL : List Int := [0, 0, 2, 1, 2, 1]
def pA : Par := ⟨2, 2, 10, 2⟩
theorem pA_ok : pA.ok := by unfold pA Par.ok; decide
theorem wf_a : wfK 7 ⟨#[97]⟩ := ⟨by decide, by decide⟩
def stA (k : Nat) : Option (Int × Int) := if k = 0 then none else some (100, (k : Int))
theorem stA_step (k : Nat) (h : k < 6) : stepO pA 100 (stA k) = (100, (k : Int) + 1) ∧ stA (k + 1) = some (stepO pA 100 (stA k)) ∧ codeS pA (stepO pA 100 (stA k)).2 = wantL.getD k 0 := by
  have h2 : ∀ k, k < 6 → stepO pA 100 (stA k) = (100, (k : Int) + 1) ∧ stA (k + 1) = some (stepO pA 100 (stA k)) ∧ codeS pA (stepO pA 100 (stA k)).2 = wantL.getD k 0 := by decide +kernel
  exact h2 k h
set_option maxHeartbeats 4000000 in
set_option maxRecDepth 100000 in
theorem awake_yes (w : World) : Calls Try.prog 8 #[] w fun e w' => e = .returned (.bool true) ∧ Ext w w' := by
  have CN := hid (one_new 2 2 10 2 w 7 ⟨#[97]⟩ pA_ok)
  go_enter Try.func8, Try.ntmps8
  go_wp2_with fail
  refine CN.out.mono ?_
  rintro e w1 ⟨g, rfl, hL, x1⟩
  have hsz := x1.size
  have KW := Blk.new w1 3 #[.int .i64 0, .int .i64 0, .int .i64 2, .int .i64 1, .int .i64 2, .int .i64 1]
  have hL0 : OneL (fun j => w.heap.size ≤ j ∧ j ≠ w1.heap.size) (w1.alloc (.cells #[.int .i64 0, .int .i64 0, .int .i64 2, .int .i64 1, .int .i64 2, .int .i64 1] 3)) g pA 0 7 ⟨#[97]⟩ none := (hL.ext (ext_alloc _ _)).mono fun j _ hj => ⟨hj.1, by omega⟩
  have hw0 : Below w.heap.size w (w1.alloc (.cells #[.int .i64 0, .int .i64 0, .int .i64 2, .int .i64 1, .int .i64 2, .int .i64 1] 3)) := Below.trans x1 ((Below.refl _ _).alloc hsz _)
  have hz1 : (w1.alloc (.cells #[.int .i64 0, .int .i64 0, .int .i64 2, .int .i64 1, .int .i64 2, .int .i64 1] 3)).heap.size = w1.heap.size + 1 := by simp
  have KW := hid KW
  have hL0 := hid hL0
  have hw0 := hid hw0
  clear hL x1 CN
  go_wp2_with fail
  go_loopw [4] (fun i wr => ∃ k : Nat, k ≤ 6 ∧ i = .int .i64 k ∧ OneL (fun j => w.heap.size ≤ j ∧ j ≠ w1.heap.size) wr g pA (if k = 0 then 0 else 100) 7 ⟨#[97]⟩ (stA k) ∧ Blk wr w1.heap.size 3 #[.int .i64 0, .int .i64 0, .int .i64 2, .int .i64 1, .int .i64 2, .int .i64 1] ∧ Below w.heap.size w wr ∧ w1.heap.size < wr.heap.size) (fun i _ => 6 - (intOf i).toNat)
  case atStart => exact ⟨0, Nat.zero_le _, rfl, hL0.out, KW.out, hw0.out, by omega⟩
  case round =>
    obtain ⟨k, hk, rfl, hL, KW, hb, hz⟩ := hrel
    by_cases hlt : k < 6
    · obtain ⟨h1, h2, h3⟩ := stA_step k hlt
      have hcell : wr.cell? ⟨w1.heap.size, k, none⟩ = some (.int .i64 (wantL.getD k 0)) := by
        rw [KW.cell k]
        rcases (show k = 0 ∨ k = 1 ∨ k = 2 ∨ k = 3 ∨ k = 4 ∨ k = 5 by omega) with rfl | rfl | rfl | rfl | rfl | rfl <;> rfl
      obtain ⟨v, hv⟩ : ∃ v, wantL.getD k 0 = v := ⟨_, rfl⟩
      rw [hv] at hcell h3
      have C := hid (fun (W : World) (hW : w1.heap.size < W.heap.size) (h : OneL (fun j => w.heap.size ≤ j ∧ j ≠ w1.heap.size) W g pA (if k = 0 then 0 else 100) 7 ⟨#[97]⟩ (stA k)) => one_step 100 100 h wf_a (fun j hj => ⟨by omega, by omega⟩) (by decide) (by split <;> decide))
      rw [h3] at C
      have H2 := hid h2
      have HL := hid hL
      have HK := hid KW
      have HB := hid hb
      have nn := World.new_ne wr _ hcell
      have i1 : (0 : Int) ≤ (k : Int) := by omega
      have i2 : (k : Int) < 6 := by omega
      have hb0 : (v != v) = false := by simp
      clear h1 h2 h3 hv hL KW hb
      go_wp2_with fail
      go_region_held3 (fun w' => w'.cell? ⟨w1.heap.size, k, none⟩ = some (.int .i64 v)) (go_keep) (first | (go_at_call 9; refine (C.out _ (by simpa using hz) (HL.out.ext (ext_drew _))).mono ?_; rintro e w2 ⟨rfl, h2, hs2⟩; have kk : w2.cell? ⟨w1.heap.size, k, none⟩ = some (.int .i64 v) := (World.cell?_of_block (hs2.block w1.heap.size hz (fun h => h.2 rfl))).trans hcell))
      all_goals
        go_wp2_with fail
        go_roundw
        case rel =>
          refine ⟨k + 1, by omega, by go_num, by rw [if_neg (by omega), H2.out]; exact h2, (hs2.block w1.heap.size (by simpa using hz) (fun h => h.2 rfl)).trans HK.out, Below.trans HB.out.drew (hs2.below (by simpa using HB.out.size) fun j hj h => by omega), Nat.lt_of_lt_of_le hz hs2.size⟩
        case measure => simp [intOf]; omega
    · obtain rfl : k = 6 := by omega
      have C1 := hid (one_len hL)
      have C2 := hid (one_count hL)
      clear hL KW
      go_wp2_with fail
      refine C1.out.mono ?_
      rintro e _ ⟨rfl, rfl⟩
      go_wp2_with fail
      refine C2.out.mono ?_
      rintro e _ ⟨rfl, rfl⟩
      go_wp2_with fail
      go_ret
      exact ⟨rfl, hb⟩
def pvN (zb k : Nat) : Option Addr := if k = 0 then none else some ⟨zb, 0, none⟩
set_option maxHeartbeats 4000000 in
set_option maxRecDepth 100000 in
theorem none_walk (c : Int) (s : ByteArray) (t : Int) (w : World) (hc : -9223372036854775808 ≤ c ∧ c ≤ 9223372036854775807) (hs : s.size ≤ maxLen) (ht : -9223372036854775808 ≤ t ∧ t ≤ 9223372036854775807) :
    Calls Try.prog 3 #[.int .i64 c, .string s, .int .i64 t] w fun e w' => e = .returned (.bool true) ∧ Below w.heap.size w w' := by
  by_cases h1 : 300 < s.size
  · have q1 : decide ((300 : Int) < (s.size : Int)) = true := by simp; omega
    go_enter Try.func3, Try.ntmps3
    go_wp2_with fail
    refine (awake_yes _).mono ?_
    rintro e w1 ⟨rfl, x1⟩
    go_wp2_with fail
    go_ret
    exact ⟨rfl, x1⟩
  have q1 : decide ((300 : Int) < (s.size : Int)) = false := by simp; omega
  go_enter Try.func3, Try.ntmps3
  go_wp2_with fail
  have KZ : Zero ((w.alloc (.cells #[.int .i64 0, .int .i64 0, .int .i64 0, .int .i64 0, .int .i64 0, .map none, .slice none 0 0] 27)).alloc (.cells #[.pointer none, .pointer (some ⟨w.heap.size, 0, none⟩)] 23)) w.heap.size := (Blk.new w 27 _).alloc _
  have KL := Blk.new (w.alloc (.cells #[.int .i64 0, .int .i64 0, .int .i64 0, .int .i64 0, .int .i64 0, .map none, .slice none 0 0] 27)) 23 #[.pointer none, .pointer (some ⟨w.heap.size, 0, none⟩)]
  have hx : Ext w ((w.alloc (.cells #[.int .i64 0, .int .i64 0, .int .i64 0, .int .i64 0, .int .i64 0, .map none, .slice none 0 0] 27)).alloc (.cells #[.pointer none, .pointer (some ⟨w.heap.size, 0, none⟩)] 23)) := ext_trans (ext_alloc _ _) (ext_alloc _ _)
  rw [show (w.alloc (.cells #[.int .i64 0, .int .i64 0, .int .i64 0, .int .i64 0, .int .i64 0, .map none, .slice none 0 0] 27)).heap.size = w.heap.size + 1 from by simp] at KL
  generalize (w.alloc (.cells #[.int .i64 0, .int .i64 0, .int .i64 0, .int .i64 0, .int .i64 0, .map none, .slice none 0 0] 27)).alloc (.cells #[.pointer none, .pointer (some ⟨w.heap.size, 0, none⟩)] 23) = w2 at KZ KL hx ⊢
  have CJ : ∀ k, k < 2 → Calls Try.prog 9 #[.pointer (pvN w.heap.size k), .int .i64 c, .string s, .int .i64 t] w2 fun e w' => e = .returned (.int .i64 2) ∧ w2 = w' := by
    intro k hk
    rcases (show k = 0 ∨ k = 1 by omega) with rfl | rfl
    · exact judge_nil c s t w2
    · exact judge_zero c s t w2 _ KZ
  have CL : ∀ k, k < 2 → Calls Try.prog 10 #[.pointer (pvN w.heap.size k)] w2 fun e w' => e = .returned (.int .i64 0) ∧ w2 = w' := by
    intro k hk
    rcases (show k = 0 ∨ k = 1 by omega) with rfl | rfl
    · exact len_nil w2
    · exact len_zero w2 _ KZ
  have CC : ∀ k, k < 2 → Calls Try.prog 11 #[.pointer (pvN w.heap.size k), .int .i64 c, .string s] w2 fun e w' => e = .returned (.int .i64 0) ∧ w2 = w' := by
    intro k hk
    rcases (show k = 0 ∨ k = 1 by omega) with rfl | rfl
    · exact count_nil c s w2
    · exact count_zero c s w2 _ KZ hc hs
  have HK := hid KL
  have HX := hid hx
  have CJ := hid CJ
  have CL := hid CL
  have CC := hid CC
  clear KZ KL hx hc hs ht
  go_loop [9] (fun i => ∃ k : Nat, k ≤ 2 ∧ i = .int .i64 k) (fun i => 2 - (intOf i).toNat)
  case atStart => exact ⟨0, Nat.zero_le _, rfl⟩
  case round =>
    obtain ⟨k, hk, rfl⟩ := hrel
    by_cases hlt : k < 2
    · have hcell : w2.cell? ⟨w.heap.size + 1, k, none⟩ = some (.pointer (pvN w.heap.size k)) := by
        rw [HK.out.cell k]
        rcases (show k = 0 ∨ k = 1 by omega) with rfl | rfl <;> rfl
      have c1 := hid (CJ.out k hlt)
      have c2 := hid (CL.out k hlt)
      have c3 := hid (CC.out k hlt)
      generalize pvN w.heap.size k = q at hcell c1 c2 c3
      go_wp2_with fail
      refine c1.out.mono ?_
      rintro e _ ⟨rfl, rfl⟩
      go_wp2_with fail
      refine c2.out.mono ?_
      rintro e _ ⟨rfl, rfl⟩
      go_wp2_with fail
      refine c3.out.mono ?_
      rintro e _ ⟨rfl, rfl⟩
      go_wp2_with fail
      go_round
      case rel => exact ⟨k + 1, by omega, by go_num⟩
      case measure => simp [intOf]; omega
    · obtain rfl : k = 2 := by omega
      go_wp2_with fail
      refine (awake_yes _).mono ?_
      rintro e w3 ⟨rfl, x3⟩
      go_wp2_with fail
      go_ret
      exact ⟨rfl, ext_trans HX.out x3⟩
end Go.Proofs.Ytnoepnbgnlolbaa

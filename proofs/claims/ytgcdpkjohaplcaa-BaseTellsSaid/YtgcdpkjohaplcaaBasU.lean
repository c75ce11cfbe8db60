/- Layer 11: the document's number, bit, Size. -/
import Derived.Test.YtgcdpkjohaplcaaBasQ
namespace Go.Proofs.Ytgcdpkjohaplcaa
open Go.BK Go.RowKit
set_option linter.unusedVariables false
def numI (c : UInt8) : Int := if BM.numN c < 64 then (BM.numN c : Int) else -1
theorem ix_letS (v : Nat) (hv : v < 64) (w : World) : (Instr.index 9 (.string letS) (.int .i64 v)).run Try.prog w = .ok (.int .u8 (BM.letN v).toNat) w := ix_let v hv w
set_option maxHeartbeats 1000000 in
set_option maxRecDepth 100000 in
theorem refsize_any (n : Int) (w : World) (hn : -9223372036854775808 ≤ n ∧ n ≤ 9223372036854775807) :
    Calls Try.prog 11 #[.int .i64 n] w fun e w' => e = .returned (.tuple #[.int .i64 (sizeS n).1, .bool (sizeS n).2]) ∧ w = w' := by
  by_cases h0 : n < 0
  · rw [show sizeS n = (0, false) from by unfold sizeS; rw [if_pos (.inl h0)]]
    go_enter Try.func11, Try.ntmps11
    go_wp2_with fail
    go_returns
    exact ⟨rfl, rfl⟩
  · by_cases h1 : n % 4 = 1
    · have e : sizeS n = (0, false) := by unfold sizeS; rw [if_pos (.inr h1)]
      have h2 : (n % 4 == 1) = true := by simpa using h1
      have H1 := hid h1
      clear h1
      rw [e]
      clear e
      go_enter Try.func11, Try.ntmps11
      go_wp2_with fail
      go_returns
      exact ⟨rfl, rfl⟩
    · have e : sizeS n = (n / 4 * 3 + n % 4 * 6 / 8, true) := by unfold sizeS; rw [if_neg (by omega)]; congr 1; omega
      have h2 : (n % 4 == 1) = false := by simpa using h1
      have b1 : 0 ≤ n % 4 := by omega
      have b2 : n % 4 < 4 := by omega
      rw [e]
      clear e h1
      go_enter Try.func11, Try.ntmps11
      go_wp2_with fail
      go_returns
      exact ⟨rfl, rfl⟩
set_option maxHeartbeats 1000000 in
set_option maxRecDepth 100000 in
theorem letters_any (w : World) : Calls Try.prog 27 #[] w fun e w' => e = .returned (.string letS) ∧ w = w' := by
  go_enter Try.func27, Try.ntmps27
  go_wp2
  go_ret
  exact ⟨rfl, rfl⟩
set_option maxHeartbeats 2000000 in
set_option maxRecDepth 100000 in
theorem number_any (c : UInt8) (w : World) : Calls Try.prog 24 #[.int .u8 c.toNat] w fun e w' => e = .returned (.int .i64 (numI c)) ∧ w = w' := by
  have CL := hid letters_any
  obtain ⟨N, hN⟩ : ∃ N, numI c = N := ⟨_, rfl⟩
  rw [hN]
  have HN := hid hN
  clear hN
  obtain ⟨S, hS⟩ : ∃ S, S = letS := ⟨_, rfl⟩
  have hix : ∀ v : Nat, v < 64 → ∀ w : World, (Instr.index 9 (.string S) (.int .i64 v)).run Try.prog w = .ok (.int .u8 (BM.letN v).toNat) w := fun v hv w => by rw [hS]; exact ix_letS v hv w
  have HIX := hid hix
  rw [← hS] at CL
  clear hS hix
  go_enter Try.func24, Try.ntmps24
  go_wp2_with fail
  refine (CL.out _).mono ?_
  rintro e _ ⟨rfl, rfl⟩
  go_wp2_with fail
  go_loop [4] (fun i => ∃ k : Nat, k ≤ 64 ∧ i = .int .i64 k ∧ ∀ j, j < k → BM.letN j ≠ c) (fun i => 64 - (intOf i).toNat)
  case atStart => exact ⟨0, by decide, rfl, by intro j hj; omega⟩
  case round =>
    obtain ⟨k, hk, rfl, hno⟩ := hrel
    by_cases hlt : k < 64
    · have hi := HIX.out k hlt
      obtain ⟨x, hx⟩ : ∃ x, x = BM.letN k := ⟨_, rfl⟩
      rw [← hx] at hi
      by_cases hc : x = c
      · have e : N = k := by
          rw [← HN.out]
          unfold numI
          rw [← hc, hx, BM.num_let k hlt, if_pos hlt]
        subst e
        subst hc
        clear hno hx
        go_wp2_with fail
        go_ret
        exact ⟨rfl, rfl⟩
      · have hne : ((x.toNat : Int) == (c.toNat : Int)) = false := by
          rw [beq_eq_false_iff_ne]
          intro e
          exact hc (UInt8.toNat_inj.1 (by omega))
        have hno2 : ∀ j, j < k + 1 → BM.letN j ≠ c := by
          intro j hj
          rcases Nat.lt_or_ge j k with h | h
          · exact hno j h
          · obtain rfl : j = k := by omega
            rw [← hx]; exact hc
        have HNO := hid hno2
        clear hno hno2 hx hc
        go_wp2_with fail
        go_round
        case rel => exact ⟨k + 1, by omega, by go_num, HNO.out⟩
        case measure => simp [intOf]; omega
    · have e : N = -1 := by
        rw [← HN.out]
        unfold numI
        rw [if_neg]
        intro h
        rcases BM.num_ok c with h2 | h2
        · exact hno _ (by omega) h2.2
        · omega
      subst e
      clear hno
      go_wp2_with fail
      go_ret
      exact ⟨rfl, rfl⟩
/-- The i-th bit of bytes, the highest of the first one first. -/
def bitB (l : List UInt8) (i : Nat) : Nat := (l.getD (i / 8) 0).toNat / 2 ^ (7 - i % 8) % 2
theorem bitB_lt (l : List UInt8) (i : Nat) : bitB l i < 2 := Nat.mod_lt _ (by decide)
set_option maxHeartbeats 4000000 in
set_option maxRecDepth 100000 in
theorem bit_any {A : Option Addr} {c : Nat} {l : List UInt8} {w : World} (i : Nat) (h : Rd w A c l) (hi : i ≤ 100000000) :
    Calls Try.prog 28 #[.slice A l.length c, .int .i64 i] w fun e w' => e = .returned (.int .i64 (bitB l i)) ∧ w = w' := by
  have hn := h.n_le
  by_cases hin : i / 8 < l.length
  · obtain ⟨b, o, rfl, hbl, hc⟩ := h.at_ hin
    obtain ⟨x, hx⟩ : ∃ x, x = l.getD (i / 8) 0 := ⟨_, rfl⟩
    have hB : bitB l i = x.toNat / 2 ^ (7 - i % 8) % 2 := by unfold bitB; rw [hx]
    rw [← hx] at hc
    rw [hB]
    have hxl := x.toNat_lt
    obtain ⟨q, hq⟩ : ∃ q, q = i / 8 := ⟨_, rfl⟩
    have hqi : (i : Int) / 8 = (q : Int) := by omega
    rw [← hq] at hc hin
    clear hx hB h hq
    have h8 := Nat.mod_lt i (show 0 < 8 by decide)
    obtain ⟨m, hm⟩ : ∃ m, m = i % 8 := ⟨_, rfl⟩
    have hmi : (i : Int) % 8 = (m : Int) := by omega
    rw [← hm] at h8 ⊢
    clear hm
    rcases (show m = 0 ∨ m = 1 ∨ m = 2 ∨ m = 3 ∨ m = 4 ∨ m = 5 ∨ m = 6 ∨ m = 7 by omega) with rfl | rfl | rfl | rfl | rfl | rfl | rfl | rfl
    all_goals
      go_enter Try.func28, Try.ntmps28
      go_wp2_with fail
      go_ret
      refine ⟨ret_int ?_, rfl⟩
      simp
  · have hB : bitB l i = 0 := by
      unfold bitB
      simp [List.getD, List.getElem?_eq_none (show l.length ≤ i / 8 by omega)]
    rw [hB]
    have hc : decide (((i : Int) / 8) < (l.length : Int)) = false := by simp; omega
    clear h hB
    go_enter Try.func28, Try.ntmps28
    go_wp2_with fail
    go_ret
    exact ⟨rfl, rfl⟩
end Go.Proofs.Ytgcdpkjohaplcaa

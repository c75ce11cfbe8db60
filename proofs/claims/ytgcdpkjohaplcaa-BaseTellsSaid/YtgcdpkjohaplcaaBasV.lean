/- Layer 11: the document's Encode. -/
import Derived.Test.YtgcdpkjohaplcaaBasU
namespace Go.Proofs.Ytgcdpkjohaplcaa
open Go.BK Go.RowKit
set_option linter.unusedVariables false
/-- So many bits from a place on, as a number. -/
def valB (l : List UInt8) (i : Nat) : Nat → Nat
  | 0 => 0
  | k + 1 => 2 * valB l i k + bitB l (i + k)
theorem valB_lt (l : List UInt8) (i : Nat) : ∀ k, valB l i k < 2 ^ k
  | 0 => by simp [valB]
  | k + 1 => by have := valB_lt l i k; have := bitB_lt l (i + k); rw [Nat.pow_succ]; simp only [valB]; omega
theorem bitB_skip (a b c : UInt8) (r : List UInt8) (i : Nat) : bitB (a :: b :: c :: r) (24 + i) = bitB r i := by
  unfold bitB
  rw [show (24 + i) / 8 = i / 8 + 3 from by omega, show (24 + i) % 8 = i % 8 from by omega]
  rfl
theorem valB_skip (a b c : UInt8) (r : List UInt8) (i : Nat) : ∀ k, valB (a :: b :: c :: r) (24 + i) k = valB r i k
  | 0 => rfl
  | k + 1 => by simp only [valB, valB_skip a b c r i k]; rw [show 24 + i + k = 24 + (i + k) from by omega, bitB_skip]
theorem enc_digit (l : List UInt8) : ∀ q, q < (BM.encD l).length → (BM.encD l)[q]? = some (valB l (6 * q) 6) := by
  have d0 : ∀ (l : List UInt8) (a : UInt8), l.getD 0 0 = a → valB l 0 6 = a.toNat / 4 := by
    intro l a h
    have := a.toNat_lt
    simp only [valB, bitB, Nat.zero_add, Nat.reduceAdd, Nat.reduceDiv, Nat.reduceMod, Nat.reduceSub, Nat.reducePow, h]
    omega
  have d1 : ∀ (l : List UInt8) (a b : UInt8), l.getD 0 0 = a → l.getD 1 0 = b → valB l 6 6 = a.toNat % 4 * 16 + b.toNat / 16 := by
    intro l a b h h2
    have := a.toNat_lt; have := b.toNat_lt
    simp only [valB, bitB, Nat.zero_add, Nat.reduceAdd, Nat.reduceDiv, Nat.reduceMod, Nat.reduceSub, Nat.reducePow, h, h2]
    omega
  have d2 : ∀ (l : List UInt8) (b c : UInt8), l.getD 1 0 = b → l.getD 2 0 = c → valB l 12 6 = b.toNat % 16 * 4 + c.toNat / 64 := by
    intro l b c h h2
    have := b.toNat_lt; have := c.toNat_lt
    simp only [valB, bitB, Nat.zero_add, Nat.reduceAdd, Nat.reduceDiv, Nat.reduceMod, Nat.reduceSub, Nat.reducePow, h, h2]
    omega
  have d3 : ∀ (l : List UInt8) (c : UInt8), l.getD 2 0 = c → valB l 18 6 = c.toNat % 64 := by
    intro l c h
    have := c.toNat_lt
    simp only [valB, bitB, Nat.zero_add, Nat.reduceAdd, Nat.reduceDiv, Nat.reduceMod, Nat.reduceSub, Nat.reducePow, h]
    omega
  fun_induction BM.encD l with
  | case1 => intro q hq; simp at hq
  | case2 a =>
    intro q hq
    simp at hq
    rcases (show q = 0 ∨ q = 1 by omega) with rfl | rfl
    · simp [d0 [a] a rfl]
    · simp [d1 [a] a 0 rfl rfl]
  | case3 a b =>
    intro q hq
    simp at hq
    rcases (show q = 0 ∨ q = 1 ∨ q = 2 by omega) with rfl | rfl | rfl
    · simp [d0 [a, b] a rfl]
    · simp [d1 [a, b] a b rfl rfl]
    · simp [d2 [a, b] b 0 rfl rfl]
  | case4 a b c r ih =>
    intro q hq
    simp only [List.length_cons] at hq
    rcases (show q = 0 ∨ q = 1 ∨ q = 2 ∨ q = 3 ∨ 4 ≤ q by omega) with rfl | rfl | rfl | rfl | h4
    · simp [d0 (a :: b :: c :: r) a rfl]
    · simp [d1 (a :: b :: c :: r) a b rfl rfl]
    · simp [d2 (a :: b :: c :: r) b c rfl rfl]
    · simp [d3 (a :: b :: c :: r) c rfl]
    · obtain ⟨p, rfl⟩ : ∃ p, q = p + 4 := ⟨q - 4, by omega⟩
      rw [show 6 * (p + 4) = 24 + 6 * p from by omega, valB_skip]
      simpa using ih p (by omega)
theorem bit_to {A : Option Addr} {c : Nat} {l : List UInt8} {w : World} (i : Nat) (a : Int) (ha : a = (i : Int)) (h : Rd w A c l) (hi : i ≤ 100000000) :
    Calls Try.prog 28 #[.slice A l.length c, .int .i64 a] w fun e w' => e = .returned (.int .i64 (bitB l i)) ∧ w = w' := by
  subst ha; exact bit_any i h hi
theorem own_snoc {w : World} {base c : Nat} {e : TypeId} {A : Option Addr} {O : List UInt8} {v : Int} {x : UInt8} (h : OwnG isU8 w base e 1 A (O.length + 1) c (O.map u8v ++ [.int .u8 v])) (hv : v = x.toNat) : Own w base e A c (O ++ [x]) := by
  subst hv
  unfold Own
  rw [List.map_append, List.length_append]
  exact h
theorem own_snocq {w : World} {base c q : Nat} {e : TypeId} {A : Option Addr} {O : List UInt8} {x : UInt8} (hq : O.length = q) (h : OwnG isU8 w base e 1 A (q + 1) c (O.map u8v ++ [u8v x])) : Own w base e A c (O ++ [x]) := by
  subst hq
  unfold Own
  rw [List.map_append, List.length_append]
  exact h
set_option maxHeartbeats 4000000 in
set_option maxRecDepth 100000 in
theorem refencode_any {A : Option Addr} {c : Nat} {l : List UInt8} {w : World} (h : Rd w A c l) (hl : l.length ≤ 1000000) :
    Calls Try.prog 13 #[.slice A l.length c] w fun e w' => e = .returned (.string (encT l)) ∧ Ext w w' := by
  obtain ⟨i0, hi, hz0, hz1, hz2⟩ := info_parts info_u8
  have CL := hid letters_any
  obtain ⟨S, hS⟩ : ∃ S, S = letS := ⟨_, rfl⟩
  have hix : ∀ v : Nat, v < 64 → ∀ w : World, (Instr.index 9 (.string S) (.int .i64 v)).run Try.prog w = .ok (.int .u8 (BM.letN v).toNat) w := fun v hv w => by rw [hS]; exact ix_letS v hv w
  have HIX := hid hix
  have CB := hid (fun W (hW : Rd W A c l) (i : Nat) (a : Int) (ha : a = (i : Int)) (hi : i ≤ 100000000) => bit_to i a ha hW hi)
  have H := hid h
  have hlen := BM.encD_len l
  obtain ⟨M, hM⟩ : ∃ M, (BM.encD l).length = M := ⟨_, rfl⟩
  rw [hM] at hlen
  have HM := hid hM
  rw [← hS] at CL
  clear hS hix h hM
  go_enter Try.func13, Try.ntmps13
  go_wp2_with fail
  refine (CL.out _).mono ?_
  rintro e _ ⟨rfl, rfl⟩
  go_wp2_with fail
  go_loopw [4, 5] (fun o i wr => ∃ (q : Nat) (B : Option Addr) (cb : Nat) (O : List UInt8), q ≤ M ∧ i = .int .i64 (6 * (q : Int)) ∧ o = .slice B q cb ∧ O.length = q ∧ O = ((BM.encD l).take q).map BM.letN ∧ Own wr w.heap.size 5 B cb O ∧ Ext w wr) (fun _ i _ => 6 * M + 6 - (intOf i).toNat)
  case atStart => exact ⟨0, none, 0, [], Nat.zero_le _, rfl, rfl, rfl, by simp, Own.nil _ _ _, ext_refl _⟩
  case round =>
    obtain ⟨q, B, cb, O, hq, rfl, rfl, hOl, hO, ow, hx⟩ := hrel
    have HO := hid hO
    have OW := hid ow
    have HX := hid hx
    have HOL := hid hOl
    have hr := hid (H.out.ext hx)
    clear hO ow hx hOl
    by_cases hlt : 6 * q < 8 * l.length
    · have hqM : q < M := by omega
      have hdg := enc_digit l q (by rw [HM.out]; exact hqM)
      obtain ⟨D, hD⟩ : ∃ D, valB l (6 * q) 6 = D := ⟨_, rfl⟩
      rw [hD] at hdg
      have hDl : D < 64 := by rw [← hD]; exact valB_lt l (6 * q) 6
      have HDG := hid hdg
      have HD := hid hD
      clear hdg hD
      have y1 : decide (6 * (q : Int) < 8 * (l.length : Int)) = true := by simp; omega
      go_wp2_with fail
      obtain ⟨wo, hwo⟩ : ∃ wo, wo = wr := ⟨_, rfl⟩
      subst hwo
      go_loop [6, 7] (fun n i => ∃ k : Nat, k ≤ 6 ∧ i = .int .i64 k ∧ n = .int .i64 (valB l (6 * q) k)) (fun _ i => 6 - (intOf i).toNat)
      case atStart => exact ⟨0, by decide, rfl, rfl⟩
      case round =>
        obtain ⟨k, hk, rfl, rfl⟩ := hrel
        by_cases hlt2 : k < 6
        · have hb := bitB_lt l (6 * q + k)
          have hv := valB_lt l (6 * q) k
          have hv2 : valB l (6 * q) k < 64 := by
            have : 2 ^ k ≤ 2 ^ 6 := Nat.pow_le_pow_right (by decide) (by omega)
            omega
          have hs : valB l (6 * q) (k + 1) = 2 * valB l (6 * q) k + bitB l (6 * q + k) := rfl
          obtain ⟨V, hV⟩ : ∃ V, valB l (6 * q) k = V := ⟨_, rfl⟩
          obtain ⟨bt, hbt⟩ : ∃ V, bitB l (6 * q + k) = V := ⟨_, rfl⟩
          have cb := hid (CB.out _ hr.out (6 * q + k))
          rw [hV, hbt] at hs
          rw [hbt] at hb
          rw [hV] at hv2
          simp only [hbt] at cb
          simp only [hV]
          have HS := hid hs
          clear hs hV hbt hv
          go_wp2_with fail
          refine (cb.out _ (by omega) (by omega)).mono ?_
          rintro e _ ⟨rfl, rfl⟩
          go_wp2_with fail
          go_round
          case rel => exact ⟨k + 1, by omega, by go_num, by rw [HS.out]; go_num⟩
          case measure => simp [intOf]; omega
        · obtain rfl : k = 6 := by omega
          rw [HD.out]
          have hix := HIX.out D hDl
          have hbz := HX.out.size
          have ow := OW.out
          unfold Own at ow
          rw [HOL.out] at ow
          go_wp2_with (at_builtin; go_must (refine wpList_append_1 rfl (.tmp 28) (.tmp 32) 22 rfl w.heap.size 5 i0 (.int .u8 0) 1 Try.underlying22 hi hz0 hz1 hz2 rfl ⟨0, rfl⟩ (fun _ h => h.one) rfl ow (u8v (BM.letN D)) (by rfl) ⟨_, rfl⟩ (by omega) (by unfold maxLen; omega) hbz ?_; intro A5 c5 w5 o5 g5 x5; have X5 := hid (below_of_grown HX.out hbz g5 (fun g hg => (OW.out.lt g hg).1)); have O5 := own_snocq HOL.out o5; have O5 := hid O5; clear o5 g5 x5 ow))
          go_roundw
          case rel => exact ⟨q + 1, A5, c5, O ++ [BM.letN D], by omega, by go_num, rfl, by rw [List.length_append, HOL.out]; rfl, by rw [List.take_add_one, HDG.out, List.map_append, ← HO.out]; rfl, O5.out, X5.out⟩
          case measure => simp [intOf]; omega
    · obtain rfl : q = M := by omega
      have hO2 : O = encL l := by rw [HO.out, ← HM.out, List.take_length]; rfl
      have y1 : decide (6 * (q : Int) < 8 * (l.length : Int)) = false := by simp; omega
      have hcv := run_convert_rd (P := Try.prog) OW.out.rd 22 5 Try.underlying22 Try.underlying5 9 Try.underlying9
      rw [HOL.out] at hcv
      have HO2 := hid hO2
      clear hO2
      clear hlen
      go_wp2_with fail
      go_ret
      exact ⟨by rw [encT_eq, ← HO2.out]; rfl, HX.out⟩
end Go.Proofs.Ytgcdpkjohaplcaa

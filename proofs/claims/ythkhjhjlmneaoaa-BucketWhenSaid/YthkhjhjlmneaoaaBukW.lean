/- BucketWhen: When tells the least number of ticks. -/
import Derived.Test.YthkhjhjlmneaoaaBukD
import Derived.Test.YthkhjhjlmneaoaaBukT
namespace Go.Proofs.Ythkhjhjlmneaoaa
open Go.BK Go.RowKit
set_option linter.unusedVariables false

set_option maxRecDepth 100000 in
set_option maxHeartbeats 8000000 in
theorem when_walk (rate burst now first n : Int) (w : World) (hr : -9223372036854775808 ≤ rate ∧ rate ≤ 9223372036854775807) (hb : -9223372036854775808 ≤ burst ∧ burst ≤ 9223372036854775807) (hw : -9223372036854775808 ≤ now ∧ now ≤ 9223372036854775807)
    (hf : -9223372036854775808 ≤ first ∧ first ≤ 9223372036854775807) (hn : -9223372036854775808 ≤ n ∧ n ≤ 9223372036854775807) :
    Calls Try.prog 4 #[.int .i64 rate, .int .i64 burst, .int .i64 now, .int .i64 first, .int .i64 n] w fun e w' => e = .returned (.bool true) ∧ Below w.heap.size w w' := by
  by_cases z1 : now < 0
  · have fz1 : decide (now < 0) = true := by rw [decide_eq_true_iff]; exact z1
    go_enter Try.func4, Try.ntmps4
    go_wp2_with fail
    refine (awake_yes _).mono ?_; rintro e w0 ⟨rfl, B0⟩
    go_wp2_with fail
    go_ret
    exact ⟨rfl, B0⟩
  have fz1 : decide (now < 0) = false := by rw [decide_eq_false_iff_not]; exact z1
  by_cases z2 : (1073741824 : Int) < now
  · have fz2 : decide ((1073741824 : Int) < now) = true := by rw [decide_eq_true_iff]; exact z2
    go_enter Try.func4, Try.ntmps4
    go_wp2_with fail
    refine (awake_yes _).mono ?_; rintro e w0 ⟨rfl, B0⟩
    go_wp2_with fail
    go_ret
    exact ⟨rfl, B0⟩
  have fz2 : decide ((1073741824 : Int) < now) = false := by rw [decide_eq_false_iff_not]; exact z2
  by_cases hne : ¬ ((cutN rate : Nat) : Int) = rate ∨ ¬ ((cutN burst : Nat) : Int) = burst
  · have cN := hid (fun W => new_no rate burst now W (by rcases hne with h | h; exact .inl h; exact .inr (.inl h)))
    clear hne
    go_enter Try.func4, Try.ntmps4
    go_wp2_with fail
    refine (awake_yes _).mono ?_; rintro e w0 ⟨rfl, B0⟩
    go_wp2_with fail
    refine (cN.out _).mono ?_; rintro e wx ⟨rfl, rfl⟩
    go_wp2_with fail
    go_ret
    exact ⟨rfl, B0⟩
  obtain ⟨r, hr'⟩ : ∃ r, r = cutN rate := ⟨_, rfl⟩
  obtain ⟨b, hb'⟩ : ∃ r, r = cutN burst := ⟨_, rfl⟩
  have hrle : r ≤ 9007199254740992 := by rw [hr']; exact cut_le _
  have hble : b ≤ 9007199254740992 := by rw [hb']; exact cut_le _
  rw [← hr', ← hb'] at hne
  obtain rfl : (r : Int) = rate := by omega
  obtain rfl : (b : Int) = burst := by omega
  obtain ⟨m, hm⟩ : ∃ m : Nat, now = m := ⟨now.toNat, by omega⟩
  subst hm
  have hmle : m ≤ 1073741824 := by omega
  clear hne hr' hb'
  obtain ⟨t, ht⟩ : ∃ t, t = takeT r b b m first m := ⟨_, rfl⟩
  have hsm := fill_same (rate := r) (burst := b) (t := b) (a := m) (Nat.le_refl _) hble (by have : MT = 1099511627776 := rfl; omega)
  have hta : takeA m first m = m := by unfold takeA; rw [hsm.2]; split <;> rfl
  have htb : t ≤ b := by
    rw [ht]; unfold takeT; rw [hsm.1]
    split
    · exact Nat.le_refl _
    · split <;> omega
  have hs2 := fill_same (rate := r) (burst := b) (t := t) (a := m) htb hble (by have : MT = 1099511627776 := rfl; omega)
  have HT := hid ht
  have HTA := hid hta
  have HS := hid hs2
  clear ht hta hsm hs2 z1 z2
  have hMT : MT = 1099511627776 := rfl
  have CW : Hid (∀ (T : Int), whenS r b t n = T → ∀ (W : World) (g : Nat), Bkt W g r b t m → Calls Try.prog 15 #[.pointer (some ⟨g, 0, none⟩), .int .i64 n, .int .i64 m] W fun e w' => e = .returned (.int .i64 T) ∧ Bkt w' g r b t m ∧ W.grownBy w' (some g)) :=
    hid (fun T hT W g h => when_to n m h (by omega) hn hT HS.out.1 HS.out.2)
  by_cases hA : n ≤ t
  · have HW : Hid (whenS r b t n = 0) := hid (by unfold whenS; rw [if_pos hA])
    by_cases hA1 : n < 0
    · have q1 : decide (0 < n) = false := by rw [decide_eq_false_iff_not]; omega
      have q2 : decide (n < 0) = true := by rw [decide_eq_true_iff]; omega
      clear hA hA1 hMT
      go_enter Try.func4, Try.ntmps4
      go_wp2_with fail
      refine (awake_yes _).mono ?_; rintro e w0 ⟨rfl, B0⟩
      go_wp2_with fail
      refine (new_ok r b m _ hrle hble (by omega)).mono ?_; rintro e w1 ⟨rfl, K1, x1⟩
      have B1 := below_ext B0 B0.size x1
      have hgb := B0.size
      clear B0 x1
      generalize w0.heap.size = g at *
      go_wp2_with fail
      obtain ⟨rb, hrb⟩ : ∃ rb, rb = takeB r b b m first m := ⟨_, rfl⟩
      refine (take_to (r := rb) (t' := t) (a' := m) first m K1 (by omega) hrb.symm HT.out.symm HTA.out).mono ?_; rintro e w2 ⟨rfl, K2, x2⟩
      have B2 := below_grown B1 B1.size x2 hgb
      clear B1 x2 K1 hrb
      go_wp2_with fail
      refine (CW.out 0 HW.out _ _ K2).mono ?_; rintro e w3 ⟨rfl, K3, x3⟩
      have B3 := below_grown B2 B2.size x3 hgb
      clear B2 x3 K2
      go_wp2_with fail
      go_ret
      exact ⟨rfl, B3⟩
    have q2 : decide (n < 0) = false := by rw [decide_eq_false_iff_not]; omega
    obtain ⟨k, hk⟩ : ∃ k : Nat, n = k := ⟨n.toNat, by omega⟩
    subst hk
    have hkt : k ≤ t := by omega
    have hkb : decide (k ≤ b) = true := by rw [decide_eq_true_iff]; omega
    have TK : Hid (∀ (W : World) (g : Nat), Bkt W g r b t m → Calls Try.prog 12 #[.pointer (some ⟨g, 0, none⟩), .int .i64 (k : Int), .int .i64 m] W fun e w' => e = .returned (.bool true) ∧ Bkt w' g r b (takeT r b t m k m) (takeA m k m) ∧ W.grownBy w' (some g)) :=
      hid (fun W g h => take_to k m h (by omega) (by unfold takeB; rw [HS.out.1, decide_eq_true_iff]; omega) rfl rfl)
    clear hA hA1 hMT
    by_cases c1 : k = 0
    · have q3 : decide (0 < k) = false := by rw [decide_eq_false_iff_not]; omega
      clear c1
      go_enter Try.func4, Try.ntmps4
      go_wp2_with fail
      refine (awake_yes _).mono ?_; rintro e w0 ⟨rfl, B0⟩
      go_wp2_with fail
      refine (new_ok r b m _ hrle hble (by omega)).mono ?_; rintro e w1 ⟨rfl, K1, x1⟩
      have B1 := below_ext B0 B0.size x1
      have hgb := B0.size
      clear B0 x1
      generalize w0.heap.size = g at *
      go_wp2_with fail
      obtain ⟨rb, hrb⟩ : ∃ rb, rb = takeB r b b m first m := ⟨_, rfl⟩
      refine (take_to (r := rb) (t' := t) (a' := m) first m K1 (by omega) hrb.symm HT.out.symm HTA.out).mono ?_; rintro e w2 ⟨rfl, K2, x2⟩
      have B2 := below_grown B1 B1.size x2 hgb
      clear B1 x2 K1 hrb
      go_wp2_with fail
      refine (CW.out 0 HW.out _ _ K2).mono ?_; rintro e w3 ⟨rfl, K3, x3⟩
      have B3 := below_grown B2 B2.size x3 hgb
      clear B2 x3 K2
      go_wp2_with fail
      refine (TK.out _ _ K3).mono ?_; rintro e w4 ⟨rfl, K4, x4⟩
      have B4 := below_grown B3 B3.size x4 hgb
      go_wp2_with fail
      go_ret
      exact ⟨rfl, B4⟩
    have q3 : decide (0 < k) = true := by rw [decide_eq_true_iff]; omega
    have q3' : decide ((0 : Int) < (k : Int)) = true := by rw [decide_eq_true_iff]; omega
    by_cases c2 : r = 0
    · have q4 : decide (0 < r) = false := by rw [decide_eq_false_iff_not]; omega
      clear c2
      go_enter Try.func4, Try.ntmps4
      go_wp2_with fail
      refine (awake_yes _).mono ?_; rintro e w0 ⟨rfl, B0⟩
      go_wp2_with fail
      refine (new_ok r b m _ hrle hble (by omega)).mono ?_; rintro e w1 ⟨rfl, K1, x1⟩
      have B1 := below_ext B0 B0.size x1
      have hgb := B0.size
      clear B0 x1
      generalize w0.heap.size = g at *
      go_wp2_with fail
      obtain ⟨rb, hrb⟩ : ∃ rb, rb = takeB r b b m first m := ⟨_, rfl⟩
      refine (take_to (r := rb) (t' := t) (a' := m) first m K1 (by omega) hrb.symm HT.out.symm HTA.out).mono ?_; rintro e w2 ⟨rfl, K2, x2⟩
      have B2 := below_grown B1 B1.size x2 hgb
      clear B1 x2 K1 hrb
      go_wp2_with fail
      refine (CW.out 0 HW.out _ _ K2).mono ?_; rintro e w3 ⟨rfl, K3, x3⟩
      have B3 := below_grown B2 B2.size x3 hgb
      clear B2 x3 K2
      go_wp2_with fail
      refine (TK.out _ _ K3).mono ?_; rintro e w4 ⟨rfl, K4, x4⟩
      have B4 := below_grown B3 B3.size x4 hgb
      go_wp2_with fail
      go_ret
      exact ⟨rfl, B4⟩
    have q4 : decide (0 < r) = true := by rw [decide_eq_true_iff]; omega
    by_cases c3 : (b : Int) < 1073741824
    · have q5 : decide ((b : Int) < 1073741824) = true := by rw [decide_eq_true_iff]; exact c3
      clear c3
      go_enter Try.func4, Try.ntmps4
      go_wp2_with fail
      refine (awake_yes _).mono ?_; rintro e w0 ⟨rfl, B0⟩
      go_wp2_with fail
      refine (new_ok r b m _ hrle hble (by omega)).mono ?_; rintro e w1 ⟨rfl, K1, x1⟩
      have B1 := below_ext B0 B0.size x1
      have hgb := B0.size
      clear B0 x1
      generalize w0.heap.size = g at *
      go_wp2_with fail
      obtain ⟨rb, hrb⟩ : ∃ rb, rb = takeB r b b m first m := ⟨_, rfl⟩
      refine (take_to (r := rb) (t' := t) (a' := m) first m K1 (by omega) hrb.symm HT.out.symm HTA.out).mono ?_; rintro e w2 ⟨rfl, K2, x2⟩
      have B2 := below_grown B1 B1.size x2 hgb
      clear B1 x2 K1 hrb
      go_wp2_with fail
      refine (CW.out 0 HW.out _ _ K2).mono ?_; rintro e w3 ⟨rfl, K3, x3⟩
      have B3 := below_grown B2 B2.size x3 hgb
      clear B2 x3 K2
      go_wp2_with fail
      refine (TK.out _ _ K3).mono ?_; rintro e w4 ⟨rfl, K4, x4⟩
      have B4 := below_grown B3 B3.size x4 hgb
      go_wp2_with fail
      go_ret
      exact ⟨rfl, B4⟩
    · have q5 : decide ((b : Int) < 1073741824) = false := by rw [decide_eq_false_iff_not]; exact c3
      clear c3
      go_enter Try.func4, Try.ntmps4
      go_wp2_with fail
      refine (awake_yes _).mono ?_; rintro e w0 ⟨rfl, B0⟩
      go_wp2_with fail
      refine (new_ok r b m _ hrle hble (by omega)).mono ?_; rintro e w1 ⟨rfl, K1, x1⟩
      have B1 := below_ext B0 B0.size x1
      have hgb := B0.size
      clear B0 x1
      generalize w0.heap.size = g at *
      go_wp2_with fail
      obtain ⟨rb, hrb⟩ : ∃ rb, rb = takeB r b b m first m := ⟨_, rfl⟩
      refine (take_to (r := rb) (t' := t) (a' := m) first m K1 (by omega) hrb.symm HT.out.symm HTA.out).mono ?_; rintro e w2 ⟨rfl, K2, x2⟩
      have B2 := below_grown B1 B1.size x2 hgb
      clear B1 x2 K1 hrb
      go_wp2_with fail
      refine (CW.out 0 HW.out _ _ K2).mono ?_; rintro e w3 ⟨rfl, K3, x3⟩
      have B3 := below_grown B2 B2.size x3 hgb
      clear B2 x3 K2
      go_wp2_with fail
      refine (TK.out _ _ K3).mono ?_; rintro e w4 ⟨rfl, K4, x4⟩
      have B4 := below_grown B3 B3.size x4 hgb
      go_wp2_with fail
      go_ret
      exact ⟨rfl, B4⟩
  obtain ⟨k, hk⟩ : ∃ k : Nat, n = k := ⟨n.toNat, by omega⟩
  subst hk
  have hkt : t < k := by omega
  have q2 : decide ((k : Int) < 0) = false := by rw [decide_eq_false_iff_not]; omega
  have q3 : decide (0 < k) = true := by rw [decide_eq_true_iff]; omega
  by_cases hC1 : b < k
  · have HW : Hid (whenS r b t (k : Int) = -1) := hid (by unfold whenS; rw [if_neg hA, if_pos (.inl (by omega))])
    have q4 : decide (k ≤ b) = false := by rw [decide_eq_false_iff_not]; omega
    have q5 : decide (b < k) = true := by rw [decide_eq_true_iff]; omega
    clear hA hMT
    go_enter Try.func4, Try.ntmps4
    go_wp2_with fail
    refine (awake_yes _).mono ?_; rintro e w0 ⟨rfl, B0⟩
    go_wp2_with fail
    refine (new_ok r b m _ hrle hble (by omega)).mono ?_; rintro e w1 ⟨rfl, K1, x1⟩
    have B1 := below_ext B0 B0.size x1
    have hgb := B0.size
    clear B0 x1
    generalize w0.heap.size = g at *
    go_wp2_with fail
    obtain ⟨rb, hrb⟩ : ∃ rb, rb = takeB r b b m first m := ⟨_, rfl⟩
    refine (take_to (r := rb) (t' := t) (a' := m) first m K1 (by omega) hrb.symm HT.out.symm HTA.out).mono ?_; rintro e w2 ⟨rfl, K2, x2⟩
    have B2 := below_grown B1 B1.size x2 hgb
    clear B1 x2 K1 hrb
    go_wp2_with fail
    refine (CW.out (-1) HW.out _ _ K2).mono ?_; rintro e w3 ⟨rfl, K3, x3⟩
    have B3 := below_grown B2 B2.size x3 hgb
    clear B2 x3 K2
    go_wp2_with fail
    go_ret
    exact ⟨rfl, B3⟩
  have q4 : decide (k ≤ b) = true := by rw [decide_eq_true_iff]; omega
  have q5 : decide (b < k) = false := by rw [decide_eq_false_iff_not]; omega
  by_cases hC2 : r = 0
  · have HW : Hid (whenS r b t (k : Int) = -1) := hid (by unfold whenS; rw [if_neg hA, if_pos (.inr hC2)])
    have q6 : decide (0 < r) = false := by rw [decide_eq_false_iff_not]; omega
    have q8 : decide ((r : Int) < 8192) = true := by rw [decide_eq_true_iff]; omega
    clear hA hMT hC2
    go_enter Try.func4, Try.ntmps4
    go_wp2_with fail
    refine (awake_yes _).mono ?_; rintro e w0 ⟨rfl, B0⟩
    go_wp2_with fail
    refine (new_ok r b m _ hrle hble (by omega)).mono ?_; rintro e w1 ⟨rfl, K1, x1⟩
    have B1 := below_ext B0 B0.size x1
    have hgb := B0.size
    clear B0 x1
    generalize w0.heap.size = g at *
    go_wp2_with fail
    obtain ⟨rb, hrb⟩ : ∃ rb, rb = takeB r b b m first m := ⟨_, rfl⟩
    refine (take_to (r := rb) (t' := t) (a' := m) first m K1 (by omega) hrb.symm HT.out.symm HTA.out).mono ?_; rintro e w2 ⟨rfl, K2, x2⟩
    have B2 := below_grown B1 B1.size x2 hgb
    clear B1 x2 K1 hrb
    go_wp2_with fail
    refine (CW.out (-1) HW.out _ _ K2).mono ?_; rintro e w3 ⟨rfl, K3, x3⟩
    have B3 := below_grown B2 B2.size x3 hgb
    clear B2 x3 K2
    go_wp2_with fail
    go_ret
    exact ⟨rfl, B3⟩
  have q6 : decide (0 < r) = true := by rw [decide_eq_true_iff]; omega
  obtain ⟨d, hd⟩ : ∃ d, d = ceilD (k - t) r := ⟨_, rfl⟩
  by_cases hC3 : MT < d
  · have HW : Hid (whenS r b t (k : Int) = -1) := hid (by unfold whenS; rw [if_neg hA, if_neg (by omega), show ((k : Int)).toNat - t = k - t from by omega, ← hd, if_pos hC3])
    have hfar := when_far (rate := r) (burst := b) (t := t) (n := k) (by omega) hble (by omega) (by rw [← hd]; exact hC3)
    have q7 : decide ((b : Int) < 1073741824) = false := by rw [decide_eq_false_iff_not]; omega
    have q8 : decide ((r : Int) < 8192) = true := by rw [decide_eq_true_iff]; omega
    clear hA hMT hd hfar hC3
    go_enter Try.func4, Try.ntmps4
    go_wp2_with fail
    refine (awake_yes _).mono ?_; rintro e w0 ⟨rfl, B0⟩
    go_wp2_with fail
    refine (new_ok r b m _ hrle hble (by omega)).mono ?_; rintro e w1 ⟨rfl, K1, x1⟩
    have B1 := below_ext B0 B0.size x1
    have hgb := B0.size
    clear B0 x1
    generalize w0.heap.size = g at *
    go_wp2_with fail
    obtain ⟨rb, hrb⟩ : ∃ rb, rb = takeB r b b m first m := ⟨_, rfl⟩
    refine (take_to (r := rb) (t' := t) (a' := m) first m K1 (by omega) hrb.symm HT.out.symm HTA.out).mono ?_; rintro e w2 ⟨rfl, K2, x2⟩
    have B2 := below_grown B1 B1.size x2 hgb
    clear B1 x2 K1 hrb
    go_wp2_with fail
    refine (CW.out (-1) HW.out _ _ K2).mono ?_; rintro e w3 ⟨rfl, K3, x3⟩
    have B3 := below_grown B2 B2.size x3 hgb
    clear B2 x3 K2
    go_wp2_with fail
    go_ret
    exact ⟨rfl, B3⟩
  have HW : Hid (whenS r b t (k : Int) = (d : Int)) := hid (by unfold whenS; rw [if_neg hA, if_neg (by omega), show ((k : Int)).toNat - t = k - t from by omega, ← hd, if_neg hC3])
  have hdb : d ≤ 1099511627776 := by omega
  have qn1 : decide ((d : Int) < -1) = false := by rw [decide_eq_false_iff_not]; omega
  have qn2 : decide ((d : Int) < 0) = false := by rw [decide_eq_false_iff_not]; omega
  have qn3 : decide ((0 : Int) ≤ (d : Int)) = true := by rw [decide_eq_true_iff]; omega
  have q7 : decide ((1099511627776 : Int) < (d : Int)) = false := by rw [decide_eq_false_iff_not]; omega
  by_cases hB1 : (549755813888 : Int) < d
  · have q8 : decide ((549755813888 : Int) < (d : Int)) = true := by rw [decide_eq_true_iff]; exact hB1
    by_cases c3 : (b : Int) < 1073741824
    · have q9 : decide ((b : Int) < 1073741824) = true := by rw [decide_eq_true_iff]; omega
      clear hA hMT hd hC3 hB1 c3 hdb
      go_enter Try.func4, Try.ntmps4
      go_wp2_with fail
      refine (awake_yes _).mono ?_; rintro e w0 ⟨rfl, B0⟩
      go_wp2_with fail
      refine (new_ok r b m _ hrle hble (by omega)).mono ?_; rintro e w1 ⟨rfl, K1, x1⟩
      have B1 := below_ext B0 B0.size x1
      have hgb := B0.size
      clear B0 x1
      generalize w0.heap.size = g at *
      go_wp2_with fail
      obtain ⟨rb, hrb⟩ : ∃ rb, rb = takeB r b b m first m := ⟨_, rfl⟩
      refine (take_to (r := rb) (t' := t) (a' := m) first m K1 (by omega) hrb.symm HT.out.symm HTA.out).mono ?_; rintro e w2 ⟨rfl, K2, x2⟩
      have B2 := below_grown B1 B1.size x2 hgb
      clear B1 x2 K1 hrb
      go_wp2_with fail
      refine (CW.out (d : Int) HW.out _ _ K2).mono ?_; rintro e w3 ⟨rfl, K3, x3⟩
      have B3 := below_grown B2 B2.size x3 hgb
      clear B2 x3 K2
      go_wp2_with fail
      go_ret
      exact ⟨rfl, B3⟩
    · have q9 : decide ((b : Int) < 1073741824) = false := by rw [decide_eq_false_iff_not]; omega
      clear hA hMT hd hC3 hB1 c3 hdb
      go_enter Try.func4, Try.ntmps4
      go_wp2_with fail
      refine (awake_yes _).mono ?_; rintro e w0 ⟨rfl, B0⟩
      go_wp2_with fail
      refine (new_ok r b m _ hrle hble (by omega)).mono ?_; rintro e w1 ⟨rfl, K1, x1⟩
      have B1 := below_ext B0 B0.size x1
      have hgb := B0.size
      clear B0 x1
      generalize w0.heap.size = g at *
      go_wp2_with fail
      obtain ⟨rb, hrb⟩ : ∃ rb, rb = takeB r b b m first m := ⟨_, rfl⟩
      refine (take_to (r := rb) (t' := t) (a' := m) first m K1 (by omega) hrb.symm HT.out.symm HTA.out).mono ?_; rintro e w2 ⟨rfl, K2, x2⟩
      have B2 := below_grown B1 B1.size x2 hgb
      clear B1 x2 K1 hrb
      go_wp2_with fail
      refine (CW.out (d : Int) HW.out _ _ K2).mono ?_; rintro e w3 ⟨rfl, K3, x3⟩
      have B3 := below_grown B2 B2.size x3 hgb
      clear B2 x3 K2
      go_wp2_with fail
      go_ret
      exact ⟨rfl, B3⟩
  have q8 : decide ((549755813888 : Int) < (d : Int)) = false := by rw [decide_eq_false_iff_not]; exact hB1
  have hdb2 : (d : Int) ≤ 549755813888 := by omega
  have hfc := when_facts (rate := r) (burst := b) (t := t) (n := k) (d := d) (now := m) hkt (by omega) hble (by omega) hd (by omega)
  obtain ⟨hd1, hf1, hf2, hf3⟩ := hfc
  have q10 : decide (0 < d) = true := by rw [decide_eq_true_iff]; omega
  have q10' : decide ((0 : Int) < (d : Int)) = true := by rw [decide_eq_true_iff]; omega
  have hs1 : (m : Int) + d - 1 = ((m + d - 1 : Nat) : Int) := by omega
  have hs2 : (m : Int) + d = ((m + d : Nat) : Int) := by omega
  obtain ⟨t2, ht2⟩ : ∃ t2, t2 = fillT r b t m ((m + d - 1 : Nat) : Int) := ⟨_, rfl⟩
  rw [← ht2] at hf1 hf3
  have q11 : decide (k ≤ t2) = false := by rw [decide_eq_false_iff_not]; omega
  have TO : Hid (∀ (W : World) (g : Nat), Bkt W g r b t m → Calls Try.prog 14 #[.pointer (some ⟨g, 0, none⟩), .int .i64 ((m : Int) + d - 1)] W fun e w' => e = .returned (.int .i64 (t2 : Nat)) ∧ Bkt w' g r b t2 (m + d - 1) ∧ W.grownBy w' (some g)) :=
    hid (fun W g h => by rw [hs1]; exact tokens_to _ h (by omega) ht2.symm hf2)
  have TK : Hid (∀ (W : World) (g : Nat), Bkt W g r b t2 (m + d - 1) → Calls Try.prog 12 #[.pointer (some ⟨g, 0, none⟩), .int .i64 (k : Int), .int .i64 ((m : Int) + d)] W fun e w' => e = .returned (.bool true) ∧ Bkt w' g r b (takeT r b t2 (m + d - 1) k ((m : Int) + d)) (takeA (m + d - 1) k ((m : Int) + d)) ∧ W.grownBy w' (some g)) :=
    hid (fun W g h => take_to k _ h (by omega) (by unfold takeB; rw [decide_eq_true_iff, hs2]; omega) rfl rfl)
  by_cases c3 : (b : Int) < 1073741824
  · have q9 : decide ((b : Int) < 1073741824) = true := by rw [decide_eq_true_iff]; omega
    clear hA hMT hd hC3 hB1 c3 ht2 hdb hf1 hf2 hf3 hs1 hs2
    go_enter Try.func4, Try.ntmps4
    go_wp2_with fail
    refine (awake_yes _).mono ?_; rintro e w0 ⟨rfl, B0⟩
    go_wp2_with fail
    refine (new_ok r b m _ hrle hble (by omega)).mono ?_; rintro e w1 ⟨rfl, K1, x1⟩
    have B1 := below_ext B0 B0.size x1
    have hgb := B0.size
    clear B0 x1
    generalize w0.heap.size = g at *
    go_wp2_with fail
    obtain ⟨rb, hrb⟩ : ∃ rb, rb = takeB r b b m first m := ⟨_, rfl⟩
    refine (take_to (r := rb) (t' := t) (a' := m) first m K1 (by omega) hrb.symm HT.out.symm HTA.out).mono ?_; rintro e w2 ⟨rfl, K2, x2⟩
    have B2 := below_grown B1 B1.size x2 hgb
    clear B1 x2 K1 hrb
    go_wp2_with fail
    refine (CW.out (d : Int) HW.out _ _ K2).mono ?_; rintro e w3 ⟨rfl, K3, x3⟩
    have B3 := below_grown B2 B2.size x3 hgb
    clear B2 x3 K2
    go_wp2_with fail
    refine (TO.out _ _ K3).mono ?_; rintro e w4 ⟨rfl, K4, x4⟩
    have B4 := below_grown B3 B3.size x4 hgb
    go_wp2_with fail
    refine (TK.out _ _ K4).mono ?_; rintro e w5 ⟨rfl, K5, x5⟩
    have B5 := below_grown B4 B4.size x5 hgb
    go_wp2_with fail
    go_ret
    exact ⟨rfl, B5⟩
  · have q9 : decide ((b : Int) < 1073741824) = false := by rw [decide_eq_false_iff_not]; omega
    clear hA hMT hd hC3 hB1 c3 ht2 hdb hf1 hf2 hf3 hs1 hs2
    go_enter Try.func4, Try.ntmps4
    go_wp2_with fail
    refine (awake_yes _).mono ?_; rintro e w0 ⟨rfl, B0⟩
    go_wp2_with fail
    refine (new_ok r b m _ hrle hble (by omega)).mono ?_; rintro e w1 ⟨rfl, K1, x1⟩
    have B1 := below_ext B0 B0.size x1
    have hgb := B0.size
    clear B0 x1
    generalize w0.heap.size = g at *
    go_wp2_with fail
    obtain ⟨rb, hrb⟩ : ∃ rb, rb = takeB r b b m first m := ⟨_, rfl⟩
    refine (take_to (r := rb) (t' := t) (a' := m) first m K1 (by omega) hrb.symm HT.out.symm HTA.out).mono ?_; rintro e w2 ⟨rfl, K2, x2⟩
    have B2 := below_grown B1 B1.size x2 hgb
    clear B1 x2 K1 hrb
    go_wp2_with fail
    refine (CW.out (d : Int) HW.out _ _ K2).mono ?_; rintro e w3 ⟨rfl, K3, x3⟩
    have B3 := below_grown B2 B2.size x3 hgb
    clear B2 x3 K2
    go_wp2_with fail
    refine (TO.out _ _ K3).mono ?_; rintro e w4 ⟨rfl, K4, x4⟩
    have B4 := below_grown B3 B3.size x4 hgb
    go_wp2_with fail
    refine (TK.out _ _ K4).mono ?_; rintro e w5 ⟨rfl, K5, x5⟩
    have B5 := below_grown B4 B4.size x5 hgb
    go_wp2_with fail
    go_ret
    exact ⟨rfl, B5⟩
end Go.Proofs.Ythkhjhjlmneaoaa

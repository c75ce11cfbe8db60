/- Layer 11: bytes out of digits, bit by bit: the plain law. -/
import Derived.Test.YtgcdpkjohaplcaaBasV
namespace Go.Proofs.Ytgcdpkjohaplcaa
open Go.BK Go.RowKit
set_option linter.unusedVariables false
def bitD (D : List Nat) (i : Nat) : Nat := D.getD (i / 6) 0 / 2 ^ (5 - i % 6) % 2
def bv (D : List Nat) (j : Nat) : Nat → Nat
  | 0 => 0
  | m + 1 => bv D j m + bitD D (8 * j + m) * 2 ^ (7 - m)
def outL (D : List Nat) (n i : Nat) : List UInt8 := (List.range n).map fun j => UInt8.ofNat (bv D j (min 8 (i - 8 * j)))
theorem bitD_lt (D : List Nat) (i : Nat) : bitD D i < 2 := Nat.mod_lt _ (by decide)
theorem bv_lt (D : List Nat) (j : Nat) : ∀ m, m ≤ 8 → bv D j m % 2 ^ (8 - m) = 0 ∧ bv D j m < 256 ∧ bv D j m + 2 ^ (8 - m) ≤ 256 := by
  have b := fun i => bitD_lt D i
  have b0 := b (8 * j + 0); have b1 := b (8 * j + 1); have b2 := b (8 * j + 2); have b3 := b (8 * j + 3)
  have b4 := b (8 * j + 4); have b5 := b (8 * j + 5); have b6 := b (8 * j + 6); have b7 := b (8 * j + 7)
  intro m hm
  rcases (show m = 0 ∨ m = 1 ∨ m = 2 ∨ m = 3 ∨ m = 4 ∨ m = 5 ∨ m = 6 ∨ m = 7 ∨ m = 8 by omega) with rfl | rfl | rfl | rfl | rfl | rfl | rfl | rfl | rfl
  all_goals
    simp only [bv, Nat.reduceSub, Nat.reducePow, Nat.sub_zero]
    refine ⟨?_, ?_, ?_⟩ <;> first | trivial | omega
theorem outL_len (D : List Nat) (n i : Nat) : (outL D n i).length = n := by simp [outL]
theorem outL_zero (D : List Nat) (n : Nat) : outL D n 0 = List.replicate n 0 := by
  unfold outL
  apply List.ext_getElem
  · simp
  · intro j h1 h2; simp [bv]
theorem outL_get (D : List Nat) (n i : Nat) (h : i < 8 * n) : (outL D n i).getD (i / 8) 0 = UInt8.ofNat (bv D (i / 8) (i % 8)) := by
  have hj : i / 8 < n := by omega
  unfold outL
  simp [List.getD, hj, show min 8 (i - 8 * (i / 8)) = i % 8 from by omega]
theorem outL_set (D : List Nat) (n i : Nat) (h : i < 8 * n) : (outL D n i).set (i / 8) (UInt8.ofNat (bv D (i / 8) (i % 8 + 1))) = outL D n (i + 1) := by
  unfold outL
  apply List.ext_getElem
  · simp
  · intro j h1 h2
    rw [List.getElem_set]
    by_cases hj : i / 8 = j
    · subst hj
      simp [show min 8 (i + 1 - 8 * (i / 8)) = i % 8 + 1 from by omega]
    · rw [if_neg hj]
      have : min 8 (i - 8 * j) = min 8 (i + 1 - 8 * j) := by omega
      simp [this]
theorem outL_same (D : List Nat) (n i : Nat) (h : 8 * n ≤ i) : outL D n (i + 1) = outL D n i := by
  unfold outL
  apply List.map_congr_left
  intro j hj
  have := List.mem_range.1 hj
  rw [show min 8 (i + 1 - 8 * j) = min 8 (i - 8 * j) from by omega]
theorem bitD_skip (d e f g : Nat) (r : List Nat) (i : Nat) : bitD (d :: e :: f :: g :: r) (24 + i) = bitD r i := by
  unfold bitD
  rw [show (24 + i) / 6 = i / 6 + 4 from by omega, show (24 + i) % 6 = i % 6 from by omega]
  rfl
theorem bv_skip (d e f g : Nat) (r : List Nat) (j : Nat) : ∀ m, bv (d :: e :: f :: g :: r) (j + 3) m = bv r j m
  | 0 => rfl
  | m + 1 => by simp only [bv, bv_skip d e f g r j m]; rw [show 8 * (j + 3) + m = 24 + (8 * j + m) from by omega, bitD_skip]
theorem bv0 (D : List Nat) (d e : Nat) (h : D.getD 0 0 = d) (h2 : D.getD 1 0 = e) (hd : d < 64) (he : e < 64) : bv D 0 8 = d * 4 + e / 16 := by
  simp only [bv, bitD, Nat.zero_add, Nat.mul_zero, Nat.reduceAdd, Nat.reduceMul, Nat.reduceDiv, Nat.reduceMod, Nat.reduceSub, Nat.reducePow, h, h2]
  omega
theorem bv1 (D : List Nat) (e f : Nat) (h : D.getD 1 0 = e) (h2 : D.getD 2 0 = f) (he : e < 64) (hf : f < 64) : bv D 1 8 = e % 16 * 16 + f / 4 := by
  simp only [bv, bitD, Nat.zero_add, Nat.mul_one, Nat.reduceAdd, Nat.reduceMul, Nat.reduceDiv, Nat.reduceMod, Nat.reduceSub, Nat.reducePow, h, h2]
  omega
theorem bv2 (D : List Nat) (f g : Nat) (h : D.getD 2 0 = f) (h2 : D.getD 3 0 = g) (hf : f < 64) (hg : g < 64) : bv D 2 8 = f % 4 * 64 + g := by
  simp only [bv, bitD, Nat.zero_add, Nat.reduceAdd, Nat.reduceMul, Nat.reduceDiv, Nat.reduceMod, Nat.reduceSub, Nat.reducePow, h, h2]
  omega
/-- Whole bytes. -/
def fullL (D : List Nat) (n : Nat) : List UInt8 := (List.range n).map fun j => UInt8.ofNat (bv D j 8)
theorem outL_full (D : List Nat) (n i : Nat) (h : 8 * n ≤ i) : outL D n i = fullL D n := by
  unfold outL fullL
  apply List.map_congr_left
  intro j hj
  have := List.mem_range.1 hj
  rw [show min 8 (i - 8 * j) = 8 from by omega]
theorem decS_bits (D : List Nat) (hlt : ∀ d ∈ D, d < 64) (h4 : D.length % 4 ≠ 1) :
    (BM.decS 0 0 D).1 = fullL D (D.length / 4 * 3 + (D.length % 4 - 1)) ∧ ((BM.decS 0 0 D).2.2 = 0 ↔ ∀ i, 8 * (D.length / 4 * 3 + (D.length % 4 - 1)) ≤ i → i < 6 * D.length → bitD D i = 0) := by
  induction D using BM.decD.induct with
  | case1 => simp [BM.decS, fullL]
  | case2 => simp at h4
  | case3 d e he =>
    have hd := hlt d (by simp); have hee := hlt e (by simp)
    have h0 := bv0 [d, e] d e rfl rfl hd hee
    refine ⟨?_, ?_⟩
    · simp [BM.decS, fullL, h0, show (d * 64 + e) / 16 = d * 4 + e / 16 from by omega]
    · have e1 : (d * 64 + e) % 16 = 0 := by omega
      simp only [BM.decS]
      simp [e1]
      intro i h1 h2
      rcases (show i = 8 ∨ i = 9 ∨ i = 10 ∨ i = 11 by omega) with rfl | rfl | rfl | rfl <;> simp [bitD] <;> omega
  | case4 d e he =>
    have hd := hlt d (by simp); have hee := hlt e (by simp)
    have h0 := bv0 [d, e] d e rfl rfl hd hee
    refine ⟨?_, ?_⟩
    · simp [BM.decS, fullL, h0, show (d * 64 + e) / 16 = d * 4 + e / 16 from by omega]
    · have e1 : ¬ (d * 64 + e) % 16 = 0 := by omega
      simp only [BM.decS]
      simp [e1]
      by_cases hx : bitD [d, e] 8 = 0 ∧ bitD [d, e] 9 = 0 ∧ bitD [d, e] 10 = 0
      · refine ⟨11, by omega, by omega, ?_⟩
        obtain ⟨x1, x2, x3⟩ := hx
        simp [bitD] at x1 x2 x3 ⊢
        omega
      · by_cases h8 : bitD [d, e] 8 = 0
        · by_cases h9 : bitD [d, e] 9 = 0
          · exact ⟨10, by omega, by omega, fun h => hx ⟨h8, h9, h⟩⟩
          · exact ⟨9, by omega, by omega, h9⟩
        · exact ⟨8, by omega, by omega, h8⟩
  | case5 d e f hf =>
    have hd := hlt d (by simp); have hee := hlt e (by simp); have hff := hlt f (by simp)
    have h0 := bv0 [d, e, f] d e rfl rfl hd hee
    have h1 := bv1 [d, e, f] e f rfl rfl hee hff
    refine ⟨?_, ?_⟩
    · simp [BM.decS, fullL, List.range_succ, h0, h1, show (d * 64 + e) / 16 = d * 4 + e / 16 from by omega, show ((d * 64 + e) % 16 * 64 + f) / 4 = e % 16 * 16 + f / 4 from by omega]
    · have e1 : ((d * 64 + e) % 16 * 64 + f) % 4 = 0 := by omega
      simp only [BM.decS]
      simp [e1]
      intro i h1 h2
      rcases (show i = 16 ∨ i = 17 by omega) with rfl | rfl <;> simp [bitD] <;> omega
  | case6 d e f hf =>
    have hd := hlt d (by simp); have hee := hlt e (by simp); have hff := hlt f (by simp)
    have h0 := bv0 [d, e, f] d e rfl rfl hd hee
    have h1 := bv1 [d, e, f] e f rfl rfl hee hff
    refine ⟨?_, ?_⟩
    · simp [BM.decS, fullL, List.range_succ, h0, h1, show (d * 64 + e) / 16 = d * 4 + e / 16 from by omega, show ((d * 64 + e) % 16 * 64 + f) / 4 = e % 16 * 16 + f / 4 from by omega]
    · have e1 : ¬ ((d * 64 + e) % 16 * 64 + f) % 4 = 0 := by omega
      simp only [BM.decS]
      simp [e1]
      by_cases hx : bitD [d, e, f] 16 = 0
      · refine ⟨17, by omega, by omega, ?_⟩
        simp [bitD] at hx ⊢
        omega
      · exact ⟨16, by omega, by omega, hx⟩
  | case7 d e f g r ih =>
    have hd := hlt d (by simp); have hee := hlt e (by simp); have hff := hlt f (by simp); have hgg := hlt g (by simp)
    have h0 := bv0 (d :: e :: f :: g :: r) d e rfl rfl hd hee
    have h1 := bv1 (d :: e :: f :: g :: r) e f rfl rfl hee hff
    have h2 := bv2 (d :: e :: f :: g :: r) f g rfl rfl hff hgg
    have e2 : (d * 64 + e) / 16 = d * 4 + e / 16 := by omega
    have e3 : ((d * 64 + e) % 16 * 64 + f) / 4 = e % 16 * 16 + f / 4 := by omega
    have e4 : ((d * 64 + e) % 16 * 64 + f) % 4 * 64 + g = f % 4 * 64 + g := by omega
    have e5 : BM.decS 0 0 (d :: e :: f :: g :: r) = (UInt8.ofNat (d * 4 + e / 16) :: UInt8.ofNat (e % 16 * 16 + f / 4) :: UInt8.ofNat (f % 4 * 64 + g) :: (BM.decS 0 0 r).1, (BM.decS 0 0 r).2) := by
      simp [BM.decS, e2, e3, e4, Nat.mod_one]
    have hm : (d :: e :: f :: g :: r).length % 4 = r.length % 4 := by simp only [List.length_cons]; omega
    have hdv : (d :: e :: f :: g :: r).length / 4 = r.length / 4 + 1 := by simp only [List.length_cons]; omega
    obtain ⟨i1, i2⟩ := ih (fun x hx => hlt x (by simp [hx])) (by rw [← hm]; exact h4)
    rw [e5, hm, hdv]
    have hN : (r.length / 4 + 1) * 3 + (r.length % 4 - 1) = (r.length / 4 * 3 + (r.length % 4 - 1)) + 3 := by omega
    rw [hN]
    refine ⟨?_, ?_⟩
    · rw [i1]
      unfold fullL
      rw [List.range_succ_eq_map, List.map_cons, List.range_succ_eq_map, List.map_cons, List.range_succ_eq_map, List.map_cons, List.map_cons, List.map_cons, List.map_cons]
      simp only [List.map_map]
      rw [h0]
      congr 1
      rw [show bv (d :: e :: f :: g :: r) (Nat.succ 0) 8 = e % 16 * 16 + f / 4 from h1]
      congr 1
      rw [show bv (d :: e :: f :: g :: r) (Nat.succ (Nat.succ 0)) 8 = f % 4 * 64 + g from h2]
      congr 1
      apply List.map_congr_left
      intro j hj
      simp only [Function.comp]
      rw [show j.succ.succ.succ = j + 3 from rfl, bv_skip]
    · rw [i2]
      simp only [List.length_cons]
      constructor
      · intro h i a b
        obtain ⟨p, rfl⟩ : ∃ p, i = 24 + p := ⟨i - 24, by omega⟩
        rw [bitD_skip]
        exact h p (by omega) (by omega)
      · intro h i a b
        have := h (24 + i) (by omega) (by omega)
        rwa [bitD_skip] at this
end Go.Proofs.Ytgcdpkjohaplcaa

/- Bytes as a text of 64 letters: the plain law. -/
import Derived.WalkKit
namespace Go.BK.BM

def lets : List UInt8 := [65,66,67,68,69,70,71,72,73,74,75,76,77,78,79,80,81,82,83,84,85,86,87,88,89,90,97,98,99,100,101,102,103,104,105,106,107,108,109,110,111,112,113,114,115,116,117,118,119,120,121,122,48,49,50,51,52,53,54,55,56,57,45,95]
def letN (n : Nat) : UInt8 := lets.getD n 0
def numN (c : UInt8) : Nat := if lets.findIdx (· == c) < 64 then lets.findIdx (· == c) else 255

theorem num_let : ∀ n, n < 64 → numN (letN n) = n := by decide
theorem num_ok : ∀ c : UInt8, numN c < 64 ∧ letN (numN c) = c ∨ numN c = 255 := by
  have h : ∀ k, k < 256 → (numN (UInt8.ofNat k) < 64 ∧ letN (numN (UInt8.ofNat k)) = UInt8.ofNat k ∨ numN (UInt8.ofNat k) = 255) := by decide +kernel
  intro c
  have := h c.toNat (by exact c.toNat_lt)
  simpa using this

def encD : List UInt8 → List Nat
  | [] => []
  | [a] => [a.toNat / 4, a.toNat % 4 * 16]
  | [a, b] => [a.toNat / 4, a.toNat % 4 * 16 + b.toNat / 16, b.toNat % 16 * 4]
  | a :: b :: c :: r => a.toNat / 4 :: (a.toNat % 4 * 16 + b.toNat / 16) :: (b.toNat % 16 * 4 + c.toNat / 64) :: c.toNat % 64 :: encD r

def decD : List Nat → Option (List UInt8)
  | [] => some []
  | [_] => none
  | [d, e] => if e % 16 = 0 then some [UInt8.ofNat (d * 4 + e / 16)] else none
  | [d, e, f] => if f % 4 = 0 then some [UInt8.ofNat (d * 4 + e / 16), UInt8.ofNat (e % 16 * 16 + f / 4)] else none
  | d :: e :: f :: g :: r => (decD r).map fun l => UInt8.ofNat (d * 4 + e / 16) :: UInt8.ofNat (e % 16 * 16 + f / 4) :: UInt8.ofNat (f % 4 * 64 + g) :: l

theorem u8_of (x : Nat) (h : x < 256) : (UInt8.ofNat x).toNat = x := by simp [UInt8.toNat_ofNat', Nat.mod_eq_of_lt h]

theorem encD_lt (l : List UInt8) : ∀ d ∈ encD l, d < 64 := by
  fun_induction encD l with
  | case1 => simp
  | case2 a =>
    have := a.toNat_lt; simp; omega
  | case3 a b =>
    have := a.toNat_lt; have := b.toNat_lt; simp; omega
  | case4 a b c r ih =>
    have := a.toNat_lt; have := b.toNat_lt; have := c.toNat_lt
    intro d hd
    simp only [List.mem_cons] at hd
    rcases hd with rfl | rfl | rfl | rfl | hd
    · omega
    · omega
    · omega
    · omega
    · exact ih d hd

theorem encD_len (l : List UInt8) : (encD l).length = (8 * l.length + 5) / 6 := by
  fun_induction encD l with
  | case1 => simp
  | case2 a => simp
  | case3 a b => simp
  | case4 a b c r ih => simp [ih]; omega

theorem dec_enc (l : List UInt8) : decD (encD l) = some l := by
  fun_induction encD l with
  | case1 => rfl
  | case2 a =>
    have ha := a.toNat_lt
    have e : a.toNat / 4 * 4 + a.toNat % 4 * 16 / 16 = a.toNat := by omega
    simp only [decD, if_pos (show a.toNat % 4 * 16 % 16 = 0 from by omega), e, UInt8.ofNat_toNat]
  | case3 a b =>
    have ha := a.toNat_lt; have hb := b.toNat_lt
    have e : a.toNat / 4 * 4 + (a.toNat % 4 * 16 + b.toNat / 16) / 16 = a.toNat := by omega
    have e2 : (a.toNat % 4 * 16 + b.toNat / 16) % 16 * 16 + b.toNat % 16 * 4 / 4 = b.toNat := by omega
    simp only [decD, if_pos (show b.toNat % 16 * 4 % 4 = 0 from by omega), e, e2, UInt8.ofNat_toNat]
  | case4 a b c r ih =>
    have ha := a.toNat_lt; have hb := b.toNat_lt; have hc := c.toNat_lt
    have e : a.toNat / 4 * 4 + (a.toNat % 4 * 16 + b.toNat / 16) / 16 = a.toNat := by omega
    have e2 : (a.toNat % 4 * 16 + b.toNat / 16) % 16 * 16 + (b.toNat % 16 * 4 + c.toNat / 64) / 4 = b.toNat := by omega
    have e3 : (b.toNat % 16 * 4 + c.toNat / 64) % 4 * 64 + c.toNat % 64 = c.toNat := by omega
    simp only [decD, ih, e, e2, e3, UInt8.ofNat_toNat, Option.map_some]

theorem enc_dec (ds : List Nat) (l : List UInt8) (h : decD ds = some l) (hlt : ∀ d ∈ ds, d < 64) : encD l = ds := by
  induction ds using decD.induct generalizing l with
  | case1 => simp [decD] at h; subst h; rfl
  | case2 => simp [decD] at h
  | case3 d e he =>
    simp [decD, he] at h; subst h
    have := hlt d (by simp); have := hlt e (by simp)
    simp [encD]; omega
  | case4 d e he => simp [decD, he] at h
  | case5 d e f hf =>
    simp [decD, hf] at h; subst h
    have := hlt d (by simp); have := hlt e (by simp); have := hlt f (by simp)
    simp [encD]; omega
  | case6 d e f hf => simp [decD, hf] at h
  | case7 d e f g r ih =>
    simp only [decD, Option.map_eq_some_iff] at h
    obtain ⟨l', h1, rfl⟩ := h
    have := hlt d (by simp); have := hlt e (by simp); have := hlt f (by simp); have := hlt g (by simp)
    have hr := ih l' h1 (fun x hx => hlt x (by simp [hx]))
    simp only [encD, hr]
    rw [u8_of _ (by omega), u8_of _ (by omega), u8_of _ (by omega)]
    simp only [List.cons.injEq, and_true]
    omega

theorem enc_append (a b : List UInt8) (h : a.length % 3 = 0) : encD (a ++ b) = encD a ++ encD b := by
  induction a using encD.induct with
  | case1 => rfl
  | case2 => simp at h
  | case3 => simp at h
  | case4 x y z r ih =>
    simp only [List.length_cons] at h
    simp only [List.cons_append, encD, ih (by omega)]

/-- What Encode goes through: the bits that wait. -/
def encS : Nat → Nat → List UInt8 → List Nat
  | cnt, n, [] => if cnt = 0 then [] else [n * 2 ^ (6 - cnt)]
  | cnt, n, c :: r =>
    if cnt = 4 then (n * 256 + c.toNat) / 64 :: (n * 256 + c.toNat) % 64 :: encS 0 0 r
    else (n * 256 + c.toNat) / 2 ^ (cnt + 2) :: encS (cnt + 2) ((n * 256 + c.toNat) % 2 ^ (cnt + 2)) r

theorem encS_eq (l : List UInt8) : encS 0 0 l = encD l := by
  fun_induction encD l with
  | case1 => rfl
  | case2 a => simp [encS]
  | case3 a b =>
    have ha := a.toNat_lt; have hb := b.toNat_lt
    simp [encS]; omega
  | case4 a b c r ih =>
    have ha := a.toNat_lt; have hb := b.toNat_lt; have hc := c.toNat_lt
    simp only [encS, ← ih]
    simp
    omega

/-- What Decode goes through: the bits that wait; what it tells, and what is left. -/
def decS : Nat → Nat → List Nat → List UInt8 × Nat × Nat
  | cnt, n, [] => ([], cnt, n)
  | cnt, n, d :: r =>
    if cnt = 0 then decS 6 d r
    else ((UInt8.ofNat ((n * 64 + d) / 2 ^ (cnt - 2))) :: (decS (cnt - 2) ((n * 64 + d) % 2 ^ (cnt - 2)) r).1, (decS (cnt - 2) ((n * 64 + d) % 2 ^ (cnt - 2)) r).2)

theorem decS_eq (ds : List Nat) (hlt : ∀ d ∈ ds, d < 64) :
    ((decS 0 0 ds).2.1 = 6 ↔ ds.length % 4 = 1) ∧ (ds.length % 4 = 1 → decD ds = none) ∧ (ds.length % 4 ≠ 1 → decD ds = if (decS 0 0 ds).2.2 = 0 then some (decS 0 0 ds).1 else none) ∧ (ds.length % 4 ≠ 1 → (decS 0 0 ds).1.length = ds.length / 4 * 3 + (ds.length % 4 - 1)) := by
  induction ds using decD.induct with
  | case1 => simp [decS, decD]
  | case2 => simp [decS, decD]
  | case3 d e he =>
    have := hlt d (by simp); have := hlt e (by simp)
    have e1 : (d * 64 + e) % 16 = 0 := by omega
    have e2 : (d * 64 + e) / 16 = d * 4 + e / 16 := by omega
    simp [decS, decD, he, e1, e2]
  | case4 d e he =>
    have := hlt d (by simp); have := hlt e (by simp)
    have e1 : ¬ (d * 64 + e) % 16 = 0 := by omega
    simp [decS, decD, he, e1]
  | case5 d e f hf =>
    have := hlt d (by simp); have := hlt e (by simp); have := hlt f (by simp)
    have e1 : ((d * 64 + e) % 16 * 64 + f) % 4 = 0 := by omega
    have e2 : (d * 64 + e) / 16 = d * 4 + e / 16 := by omega
    have e3 : ((d * 64 + e) % 16 * 64 + f) / 4 = e % 16 * 16 + f / 4 := by omega
    simp [decS, decD, hf, e1, e2, e3]
  | case6 d e f hf =>
    have := hlt d (by simp); have := hlt e (by simp); have := hlt f (by simp)
    have e1 : ¬ ((d * 64 + e) % 16 * 64 + f) % 4 = 0 := by omega
    simp [decS, decD, hf, e1]
  | case7 d e f g r ih =>
    have := hlt d (by simp); have := hlt e (by simp); have := hlt f (by simp); have := hlt g (by simp)
    have e2 : (d * 64 + e) / 16 = d * 4 + e / 16 := by omega
    have e3 : ((d * 64 + e) % 16 * 64 + f) / 4 = e % 16 * 16 + f / 4 := by omega
    have e4 : ((d * 64 + e) % 16 * 64 + f) % 4 * 64 + g = f % 4 * 64 + g := by omega
    have e5 : decS 0 0 (d :: e :: f :: g :: r) = (UInt8.ofNat (d * 4 + e / 16) :: UInt8.ofNat (e % 16 * 16 + f / 4) :: UInt8.ofNat (f % 4 * 64 + g) :: (decS 0 0 r).1, (decS 0 0 r).2) := by
      simp [decS, e2, e3, e4, Nat.mod_one]
    obtain ⟨i1, i2, i3, i4⟩ := ih (fun x hx => hlt x (by simp [hx]))
    have hm : (d :: e :: f :: g :: r).length % 4 = r.length % 4 := by simp only [List.length_cons]; omega
    have hd : (d :: e :: f :: g :: r).length / 4 = r.length / 4 + 1 := by simp only [List.length_cons]; omega
    rw [e5, hm, hd]
    refine ⟨i1, fun h => by simp only [decD, i2 h, Option.map_none], fun h => ?_, fun h => by have := i4 h; simp only [List.length_cons]; omega⟩
    simp only [decD, i3 h]
    split <;> simp
end Go.BK.BM

/- Plain facts on numbers as bytes. -/
import Derived.Test.YtfimfmghfjokjaaKitA
namespace Go.BK

/-- The bytes of n, so many of them, the highest first. -/
def be : Nat → Nat → List UInt8
  | 0, _ => []
  | s + 1, n => be s (n / 256) ++ [UInt8.ofNat n]
/-- The number of bytes. -/
def num (l : List UInt8) : Nat := l.foldl (fun n b => 256 * n + b.toNat) 0

theorem be_length (s : Nat) : ∀ n, (be s n).length = s := by
  induction s with
  | zero => intro n; rfl
  | succ s ih => intro n; simp [be, ih]
theorem num_nil : num [] = 0 := rfl
theorem num_snoc (l : List UInt8) (b : UInt8) : num (l ++ [b]) = 256 * num l + b.toNat := by simp [num]
theorem be_get (s : Nat) : ∀ (n i : Nat), i < s → (be s n)[i]? = some (UInt8.ofNat (n / 256 ^ (s - 1 - i))) := by
  induction s with
  | zero => intro n i h; omega
  | succ s ih =>
    intro n i h
    by_cases hi : i < s
    · rw [be, List.getElem?_append_left (by rw [be_length]; exact hi), ih _ _ hi, Nat.div_div_eq_div_mul]
      congr 3
      rw [show s + 1 - 1 - i = (s - 1 - i) + 1 from by omega, Nat.pow_succ, Nat.mul_comm]
    · have : i = s := by omega
      subst this
      rw [be, List.getElem?_append_right (by rw [be_length]; exact Nat.le_refl _), be_length]
      simp
theorem num_be (s : Nat) : ∀ n, num (be s n) = n % 256 ^ s := by
  induction s with
  | zero => intro n; simp [be, num, Nat.mod_one]
  | succ s ih =>
    intro n
    rw [be, num_snoc, ih, Nat.pow_succ, Nat.mul_comm (256 ^ s) 256, Nat.mod_mul]
    simp; omega
theorem list_snoc {α : Type} (l : List α) (h : l ≠ []) : ∃ l' a, l = l' ++ [a] := ⟨l.dropLast, l.getLast h, (List.dropLast_concat_getLast h).symm⟩
theorem be_num : ∀ (k : Nat) (l : List UInt8), l.length = k → be k (num l) = l := by
  intro k
  induction k with
  | zero => intro l h; rw [List.eq_nil_of_length_eq_zero h]; rfl
  | succ k ih =>
    intro l h
    obtain ⟨l', b, rfl⟩ := list_snoc l (by rintro rfl; simp at h)
    simp at h
    rw [num_snoc, be]
    have hb := b.toNat_lt
    rw [show (256 * num l' + b.toNat) / 256 = num l' from by omega, ih _ h]
    congr 2
    apply UInt8.toNat_inj.1
    simp
theorem num_lt : ∀ (k : Nat) (l : List UInt8), l.length = k → num l < 256 ^ k := by
  intro k
  induction k with
  | zero => intro l h; rw [List.eq_nil_of_length_eq_zero h]; decide
  | succ k ih =>
    intro l h
    obtain ⟨l', b, rfl⟩ := list_snoc l (by rintro rfl; simp at h)
    simp at h
    have := ih _ h
    have hb := b.toNat_lt
    rw [num_snoc, Nat.pow_succ]
    omega

theorem pow256 (s : Nat) : 2 ^ (8 * s) = 256 ^ s := by rw [Nat.pow_mul]
theorem shr_none (n s : Nat) (hn : n < 256 ^ s) : ((n : Int) / 2 ^ (8 * s) != 0) = false := by
  have h : ((2 : Int) ^ (8 * s)) = ((2 ^ (8 * s) : Nat) : Int) := by simp
  rw [h, ← Int.natCast_ediv, Nat.div_eq_of_lt (by rw [pow256]; exact hn)]
  rfl
theorem shr_some (n s : Nat) (hn : ¬ n < 256 ^ s) : ((n : Int) / 2 ^ (8 * s) != 0) = true := by
  have h : ((2 : Int) ^ (8 * s)) = ((2 ^ (8 * s) : Nat) : Int) := by simp
  rw [h, ← Int.natCast_ediv, pow256]
  have hp : 0 < n / 256 ^ s := Nat.div_pos (by omega) (Nat.pow_pos (by decide))
  generalize n / 256 ^ s = q at *
  rw [bne_iff_ne]
  omega
theorem u8_shr (n m : Nat) : IntKind.u8.wrap ((n : Int) / 2 ^ (8 * m)) = ((UInt8.ofNat (n / 256 ^ m)).toNat : Int) := by
  have h : ((2 : Int) ^ (8 * m)) = ((2 ^ (8 * m) : Nat) : Int) := by simp
  rw [h, ← Int.natCast_ediv, pow256, IntKind.wrap_u8]
  simp
theorem be_take (s n k : Nat) (h : k < s) : (be s n).take (k + 1) = (be s n).take k ++ [UInt8.ofNat (n / 256 ^ (s - 1 - k))] := by
  rw [List.take_add_one, be_get s n k h]; rfl
theorem be_take_len (s n k : Nat) (h : k ≤ s) : ((be s n).take k).length = k := by rw [List.length_take, be_length]; omega
theorem be_all (s n : Nat) : (be s n).take s = be s n := List.take_of_length_le (by rw [be_length]; exact Nat.le_refl _)

theorem ofInt_i64 (a : Nat) (ha : a < 9223372036854775808) : (BitVec.ofInt 64 (a : Int)).toNat = a := by
  rw [BitVec.ofInt_natCast, BitVec.toNat_ofNat]; exact Nat.mod_eq_of_lt (by omega)
theorem i64_or_nat (a b : Nat) (ha : a < 9223372036854775808) (hb : b < 9223372036854775808) : bits .or .i64 (a : Int) (b : Int) = ((a ||| b : Nat) : Int) := by
  have hx : a ||| b < 2 ^ 63 := Nat.or_lt_two_pow (by omega) (by omega)
  show IntKind.i64.wrap ((BitVec.ofInt 64 (a : Int) ||| BitVec.ofInt 64 (b : Int)).toNat : Int) = _
  rw [BitVec.toNat_or, ofInt_i64 a ha, ofInt_i64 b hb, IntKind.wrap_i64]
  omega
theorem or_byte (a b : Nat) (ha : a ≤ 4294967295) (hb : b < 256) : bits .or .i64 ((a : Int) * 256) (b : Int) = ((256 * a + b : Nat) : Int) := by
  have h := i64_or_nat (256 * a) b (by omega) (by omega)
  rw [show ((256 * a : Nat) : Int) = (a : Int) * 256 from by omega] at h
  rw [h]
  congr 1
  have := Nat.two_pow_add_eq_or_of_lt (i := 8) (b := b) (by omega) a
  simpa using this.symm
theorem num_take (l : List UInt8) (f k : Nat) (h : f + k < l.length) : num ((l.drop f).take (k + 1)) = 256 * num ((l.drop f).take k) + (l.getD (f + k) 0).toNat := by
  rw [List.take_add_one, List.getElem?_drop, List.getElem?_eq_getElem h]
  simp [num_snoc, h]
theorem num_take0 (l : List UInt8) (k : Nat) (h : k < l.length) : num (l.take (k + 1)) = 256 * num (l.take k) + (l.getD k 0).toNat := by
  have := num_take l 0 k (by omega); simpa using this
theorem num_take_le (l : List UInt8) (f k : Nat) (h : k ≤ 4) : num ((l.drop f).take k) ≤ 4294967295 := by
  have h1 := num_lt _ ((l.drop f).take k) rfl
  have h2 : ((l.drop f).take k).length ≤ 4 := by simp; omega
  have h3 : 256 ^ ((l.drop f).take k).length ≤ 256 ^ 4 := Nat.pow_le_pow_right (by decide) h2
  omega

/-- What Get tells: the number, the place behind, the error, its place. -/
def getS (l : List UInt8) (a : Int) (s : Nat) : Int × Int × Int × Int :=
  if a < 0 ∨ (l.length : Int) < a then (0, 0, 5, 0)
  else if a.toNat + s ≤ l.length then (num ((l.drop a.toNat).take s), a + s, 0, 0) else (0, 0, 4, l.length)
/-- What Bytes tells. -/
def bytesS (l : List UInt8) (a n : Int) : List UInt8 × Int × Int × Int :=
  if n < 0 then ([], 0, 2, 0)
  else if a < 0 ∨ (l.length : Int) < a then ([], 0, 5, 0)
  else if (l.length : Int) - a < n then ([], 0, 4, l.length)
  else ((l.drop a.toNat).take n.toNat, a + n, 0, 0)
/-- What Put tells: the bytes, the error. -/
def putS (s : Nat) (n : Int) : List UInt8 × Int := if 0 ≤ n ∧ n.toNat < 256 ^ s then (be s n.toNat, 0) else ([], 5)
theorem putS_yes (s n : Nat) (h : n < 256 ^ s) : putS s n = (be s n, 0) := by unfold putS; rw [if_pos ⟨by omega, by simpa using h⟩]; simp
theorem putS_no (s : Nat) (n : Int) (h : n < 0 ∨ ¬ n.toNat < 256 ^ s) : putS s n = ([], 5) := by unfold putS; rw [if_neg (by rintro ⟨h1, h2⟩; rcases h with h | h; omega; exact h h2)]
theorem putS_cases (s : Nat) (n : Int) : (∃ k : Nat, n = k ∧ k < 256 ^ s) ∨ (n < 0 ∨ ¬ n.toNat < 256 ^ s) := by
  by_cases h : n < 0
  · exact .inr (.inl h)
  · by_cases h2 : n.toNat < 256 ^ s
    · exact .inl ⟨n.toNat, by omega, h2⟩
    · exact .inr (.inr h2)
end Go.BK

/- The bits of layer 11: put, get. -/
import Derived.Test.YtgcdpkjohaplcaaBldA
import Derived.Test.YtgcdpkjohaplcaaKBase
import Derived.Test.YtgcdpkjohaplcaaBasM
import Derived.Laws.BitsAllLaws
import Derived.Lib.QuoteBits
import Derived.BigQuiet
import Derived.Deep.QuietTactic
import Derived.RegionTactic
import Derived.BigRegion
import Derived.ChangeAlike
namespace Go.Proofs.Ytgcdpkjohaplcaa
open Go.BK Go.RowKit
set_option linter.unusedVariables false
theorem shy_drewN {U : Nat → Prop} (w : World) (n : Nat) : Shy U w (w.drewN n) := ⟨rfl, rfl, rfl, Nat.le_refl _, fun _ _ _ => rfl⟩
theorem wraps_i64_62 (n : Int) (h₀ : 0 ≤ n) (h₁ : n < 2 ^ 62) : IntKind.i64.wrap n = n := IntWalk.i64_in _ (by omega)
theorem or_i64 (i : Nat) (x y : Nat) (hx : x < 2 ^ i) (hy : y * 2 ^ i < 2 ^ 62) (h2 : x < 2 ^ 62) : bits .or .i64 ((y : Int) * 2 ^ i) x = ((y * 2 ^ i + x : Nat) : Int) := by
  have hy' : ((y * 2 ^ i : Nat) : Int) < ((2 ^ 62 : Nat) : Int) := by exact_mod_cast hy
  have hx' : ((x : Nat) : Int) < ((2 ^ i : Nat) : Int) := by exact_mod_cast hx
  have hx2 : ((x : Nat) : Int) < ((2 ^ 62 : Nat) : Int) := by exact_mod_cast h2
  have e : (y : Int) * 2 ^ i = ((y * 2 ^ i : Nat) : Int) := by simp
  rw [e]
  rw [bits_join .i64 62 (by decide) wraps_i64_62 i ((y * 2 ^ i : Nat) : Int) x (by omega) (by simp) (by simpa using hy') (by omega) (by simpa using hx') (by simpa using hx2)]
  simp
theorem and_mask_i64 (i : Nat) (x : Nat) (hx : x < 2 ^ 62) (hi : i ≤ 61) : bits .and .i64 (x : Int) ((2 ^ i - 1 : Nat) : Int) = ((x % 2 ^ i : Nat) : Int) := by
  have h1 : 2 ^ i ≤ 2 ^ 61 := Nat.pow_le_pow_right (by omega) hi
  have h3 : x % 2 ^ i ≤ x := Nat.mod_le _ _
  show IntKind.i64.wrap ((BitVec.ofInt 64 (x : Int) &&& BitVec.ofInt 64 ((2 ^ i - 1 : Nat) : Int)).toNat : Int) = _
  rw [BitVec.toNat_and, ofInt_u64 x (by omega), ofInt_u64 (2 ^ i - 1) (by omega), Nat.and_two_pow_sub_one_eq_mod]
  exact Lib.wrap_i64_small _ (by omega)
set_option maxHeartbeats 1000000 in
theorem put_any (g n cnt x k : Nat) (w : World) (h : Blk w g 42 #[.int .i64 n, .int .i64 cnt]) (hn : n < 65536) (hx : x < 2 ^ k) (hc : cnt ≤ 100) (hk : k = 8 ∨ k = 6 ∨ k = 4 ∨ k = 2) :
    Calls Try.prog 22 #[.pointer (some ⟨g, 0, none⟩), .int .i64 x, .int .i64 k] w fun e w' => e = .returned (.tuple #[]) ∧ Blk w' g 42 #[.int .i64 (n * 2 ^ k + x : Nat), .int .i64 (cnt + k : Nat)] ∧ Shy (fun k => k = g) w w' := by
  obtain ⟨c0, c1, cf⟩ := h.two
  rcases hk with rfl | rfl | rfl | rfl
  all_goals
    have ho := hid (or_i64 _ x n hx (by omega) (by omega))
    have hb := hid h
    clear h hx
    go_enter Try.func22, Try.ntmps22
    go_wp2
    go_end0
    have ho' := ho.out
    simp only [Int.reducePow, Nat.reducePow] at ho' ⊢
    rw [ho']
    refine ⟨by trivial, ?_, (shy_set 0 _).trans (shy_set 1 _) fun _ _ h => h⟩
    exact (hb.out.set_ 0 _).set_ 1 _
set_option maxHeartbeats 1000000 in
/-- get: the first so many bits. -/
theorem get_any (g n m k : Nat) (w : World) (h : Blk w g 42 #[.int .i64 n, .int .i64 (m + k : Nat)]) (hn : n < 16777216) (hm : m = 0 ∨ m = 2 ∨ m = 4 ∨ m = 6) (hk : k = 8 ∨ k = 6) :
    Calls Try.prog 23 #[.pointer (some ⟨g, 0, none⟩), .int .i64 k] w fun e w' => e = .returned (.int .i64 (n / 2 ^ m : Nat)) ∧ Blk w' g 42 #[.int .i64 (n % 2 ^ m : Nat), .int .i64 m] ∧ Shy (fun k => k = g) w w' := by
  have ho := hid (and_mask_i64 m n (by omega) (by omega))
  obtain ⟨c0, c1, cf⟩ := h.two
  rcases hm with rfl | rfl | rfl | rfl
  all_goals
    have hb := hid h
    clear h
    rcases hk with rfl | rfl
    all_goals
      go_enter Try.func23, Try.ntmps23
      go_wp2
      go_quiet (fail)
      go_wp2
      go_region
      all_goals
        go_wp2
        go_ret
        first
          | (have ho' : bits .and .i64 (n : Int) 0 = ((n % 2 ^ 0 : Nat) : Int) := ho.out
             rw [ho'])
          | (have ho' : bits .and .i64 (n : Int) 3 = ((n % 2 ^ 2 : Nat) : Int) := ho.out
             rw [ho'])
          | (have ho' : bits .and .i64 (n : Int) 15 = ((n % 2 ^ 4 : Nat) : Int) := ho.out
             rw [ho'])
          | (have ho' : bits .and .i64 (n : Int) 63 = ((n % 2 ^ 6 : Nat) : Int) := ho.out
             rw [ho'])
        refine ⟨ret_int (by simp), ((hb.out.set_ 1 _).drewN _).set_ 0 _, ?_⟩
        exact Shy.trans (Shy.trans (shy_set 1 _) (shy_drewN (U := fun k => k = g) _ _) fun _ _ h => h) (shy_set 0 _) fun _ _ h => h
end Go.Proofs.Ytgcdpkjohaplcaa

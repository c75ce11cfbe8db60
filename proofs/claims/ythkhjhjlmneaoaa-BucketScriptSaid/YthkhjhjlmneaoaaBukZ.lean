/- BucketScript: the walk (draft). -/
import Derived.Test.YthkhjhjlmneaoaaBukH
import Derived.Test.YthkhjhjlmneaoaaBukD
import Derived.Deep.RegionHeld3
namespace Go.Proofs.Ythkhjhjlmneaoaa
open Go.BK Go.RowKit
set_option linter.unusedVariables false

/-- Pick: a number from 0 on, below n. -/
def pick (x n : Int) : Int := if n < 1 then 0 else x % n
theorem pick_range (x n : Int) (h : 1 ≤ n) : 0 ≤ pick x n ∧ pick x n < n := by
  unfold pick
  rw [if_neg (by omega)]
  exact ⟨Int.emod_nonneg _ (by omega), Int.emod_lt_of_pos _ (by omega)⟩
set_option maxHeartbeats 400000 in
theorem pick_any (x n : Int) (w : World) (hx : -9223372036854775808 ≤ x ∧ x ≤ 9223372036854775807) (hn : n ≤ 9223372036854775807) :
    Calls Try.prog 17 #[.int .i64 x, .int .i64 n] w fun e w' => e = .returned (.int .i64 (pick x n)) ∧ w = w' := by
  by_cases h1 : n < 1
  · go_enter Try.func17, Try.ntmps17
    go_wp2
    go_ret
    exact ⟨ret_int (by unfold pick; rw [if_pos (by omega)]), rfl⟩
  · have hn0 : ¬ n = 0 := by omega
    have e1 : x % n = if x.tmod n < 0 then x.tmod n + n else x.tmod n := by
      rcases Int.lt_or_le x 0 with hx0 | hx0
      · have h2 := Int.tmod_eq_emod (a := x) (b := n)
        have h3 := Int.emod_nonneg x hn0
        have h4 := Int.emod_lt_of_pos x (show 0 < n by omega)
        rw [h2]
        split <;> split <;> omega
      · rw [Int.tmod_eq_emod_of_nonneg hx0]
        have h3 := Int.emod_nonneg x hn0
        rw [if_neg (by omega)]
    have hb : -n < x.tmod n ∧ x.tmod n < n := by
      have h2 := Int.tmod_eq_emod (a := x) (b := n)
      have h3 := Int.emod_nonneg x hn0
      have h4 := Int.emod_lt_of_pos x (show 0 < n by omega)
      have h5 : (n.natAbs : Int) = n := by omega
      rw [h2]
      split <;> omega
    obtain ⟨hb1, hb2⟩ := hb
    have hq : ¬ (x = -9223372036854775808 ∧ n = -1) := by omega
    have E1 := hid e1
    clear e1
    by_cases h2 : x.tmod n < 0
    · go_enter Try.func17, Try.ntmps17
      go_wp2
      go_ret
      exact ⟨ret_int (by unfold pick; rw [if_neg (by omega), E1.out, if_pos h2]), rfl⟩
    · go_enter Try.func17, Try.ntmps17
      go_wp2
      go_ret
      exact ⟨ret_int (by unfold pick; rw [if_neg (by omega), E1.out, if_neg (by omega)]), rfl⟩


/-- A slice of acts. -/
def ActR (w : World) (A : Option Addr) (n c : Nat) (K N T : Nat → Int) : Prop :=
  n ≤ c ∧ c ≤ maxLen ∧ ∀ i, i < n → ∃ b o, A = some ⟨b, o, none⟩ ∧ b < w.heap.size ∧ w.cell? ⟨b, o + i * 3, none⟩ = some (.int .i64 (K i)) ∧ w.cell? ⟨b, o + i * 3 + 1, none⟩ = some (.int .i64 (N i)) ∧ w.cell? ⟨b, o + i * 3 + 2, none⟩ = some (.int .i64 (T i)) ∧
    (-9223372036854775808 ≤ K i ∧ K i ≤ 9223372036854775807) ∧ (-9223372036854775808 ≤ N i ∧ N i ≤ 9223372036854775807) ∧ -9223372036854775808 ≤ T i ∧ T i ≤ 9223372036854775807
theorem ActR.cells {w : World} {A : Option Addr} {n c : Nat} {K N T : Nat → Int} (h : ActR w A n c K N T) {k : Nat} (hk : k < n) :
    ∃ b o, A = some ⟨b, o, none⟩ ∧ (-9223372036854775808 ≤ K k ∧ K k ≤ 9223372036854775807) ∧ (-9223372036854775808 ≤ N k ∧ N k ≤ 9223372036854775807) ∧ (-9223372036854775808 ≤ T k ∧ T k ≤ 9223372036854775807) ∧
      (∀ W', Below w.heap.size w W' → W'.cell? ⟨b, o + k * 3, none⟩ = some (.int .i64 (K k)) ∧ W'.cell? ⟨b, o + k * 3 + 1, none⟩ = some (.int .i64 (N k)) ∧ W'.cell? ⟨b, o + k * 3 + 2, none⟩ = some (.int .i64 (T k))) := by
  obtain ⟨b, o, h1, h2, h3, h4, h5, h6, h7, h8⟩ := h.2.2 k hk
  exact ⟨b, o, h1, h6, h7, h8, fun W' e => ⟨by rw [e.cell h2]; exact h3, by rw [e.cell h2]; exact h4, by rw [e.cell h2]; exact h5⟩⟩

set_option maxRecDepth 100000 in
set_option maxHeartbeats 8000000 in
theorem script_in (r b m : Nat) {A : Option Addr} {n c : Nat} {K N T : Nat → Int} (w : World) (hr : r ≤ 9007199254740992) (hb : b ≤ 9007199254740992) (hm : m ≤ 1099511627776)
    (hn : n ≤ 200) (hA : ActR w A n c K N T) :
    Calls Try.prog 5 #[.int .i64 r, .int .i64 b, .int .i64 m, .slice A n c] w fun e w' => e = .returned (.bool true) ∧ Below w.heap.size w w' := by
  have HA := hid (fun k (hk : k < n) => hA.cells hk)
  have hc9 : c ≤ 9223372036854775807 := by have := hA.2.1; unfold maxLen at *; omega
  clear hA
  go_enter Try.func5, Try.ntmps5
  go_wp2_with fail
  refine (new_ok r b m _ hr hb hm).mono ?_; rintro e w2 ⟨rfl, K2, x2⟩
  obtain ⟨g, hg⟩ : ∃ g, g = w.heap.size := ⟨_, rfl⟩
  have hgle : w.heap.size ≤ g := by omega
  rw [← hg] at K2 ⊢
  have Bq := hid x2
  have Kq := hid K2
  clear x2 hg K2
  go_wp2_with fail
  refine (rnew_ok r b m _ hr hb hm).mono ?_; rintro e w4 ⟨rfl, K4, x4⟩
  obtain ⟨g2, hg2⟩ : ∃ g2, g2 = w2.heap.size := ⟨_, rfl⟩
  have hgle2 : w.heap.size ≤ g2 := by rw [hg2]; exact Bq.out.size
  have hgg : g < g2 := by rw [hg2]; exact Kq.out.blk.lt
  rw [← hg2] at K4 ⊢
  have K3 := hid (Kq.out.ext x4)
  have B4 := hid (below_ext Bq.out Bq.out.size x4)
  have K4' := hid K4
  clear hg2 x4 K4 Kq Bq
  go_wp2_with fail
  go_loopw [13] (fun kv wr => ∃ (k t a : Nat), k ≤ n ∧ kv = .int .i64 k ∧ Hid (Bkt wr g r b t a) ∧ Hid (RBk wr g2 r b t a) ∧ Hid (Below w.heap.size w wr)) (fun kv _ => n - (intOf kv).toNat)
  case atStart => exact ⟨0, b, m, Nat.zero_le _, rfl, K3, K4', B4⟩
  case round =>
    clear K3 K4' B4
    obtain ⟨k, t, a, hk, rfl, KB, KC, BB⟩ := hrel
    by_cases hlt : k < n
    · obtain ⟨bl, o, hAe, hb1, hb2, hb3, cN⟩ := HA.out k hlt
      subst hAe
      obtain ⟨s1, s2, s3⟩ := cN _ BB.out
      generalize K k = xk at *
      generalize N k = xn at *
      generalize T k = xt at *
      have hpr := pick_range xk 5 (by decide)
      obtain ⟨pk, hpk⟩ : ∃ p : Nat, pick xk 5 = p := ⟨(pick xk 5).toNat, by omega⟩
      have PK := hid (fun W => pick_any xk 5 W hb1 (by decide))
      rw [hpk] at PK
      have hp5 : pk < 5 := by omega
      clear hpr hpk cN
      have hlg := KB.out.blk.lt
      have hlg2 := KC.out.blk.lt
      have X0 := hid (Blk.new wr 41 #[.int .i64 xk, .int .i64 xn, .int .i64 xt])
      have KB := hid (KB.out.ext (ext_alloc wr (.cells #[.int .i64 xk, .int .i64 xn, .int .i64 xt] 41)))
      have KC := hid (KC.out.ext (ext_alloc wr (.cells #[.int .i64 xk, .int .i64 xn, .int .i64 xt] 41)))
      have BB := hid (below_ext BB.out BB.out.size (ext_alloc wr (.cells #[.int .i64 xk, .int .i64 xn, .int .i64 xt] 41)))
      go_wp2_with fail
      obtain ⟨q, hq⟩ : ∃ q, q = wr.heap.size := ⟨_, rfl⟩
      have HQ1 := hid (show q ≠ g by omega)
      have HQ2 := hid (show q ≠ g2 by omega)
      have HGG := hid (show g2 ≠ g by omega)
      rw [← hq] at X0 ⊢
      clear hq hlg hlg2
      refine (PK.out _).mono ?_; rintro e w6 ⟨rfl, hw⟩
      rw [hw] at X0 KB KC BB
      clear hw PK s1 s2 s3
      have x1 : w6.cell? ⟨q, 1, none⟩ = some (.int .i64 xn) := X0.out.cell 1
      have x2 : w6.cell? ⟨q, 2, none⟩ = some (.int .i64 xt) := X0.out.cell 2
      by_cases p2 : pk = 2
      · subst p2
        have HB := fun (W : World) (hK : Bkt W g r b t a) => tokens_any xt hK hb3
        have HC := fun (W : World) (hK : RBk W g2 r b t a) => rtokens_any xt hK hb3
        generalize fillT r b t a xt = t1 at *
        generalize fillA a xt = a1 at *
        have n1 : ((t1 : Int) == t1) = true := by simp
        go_wp2_with fail
        clear x1 x2
        have e0 := hid (ext_drew w6)
        have XB := hid (X0.out.ext e0.out)
        have KB := hid (KB.out.ext e0.out)
        have KC := hid (KC.out.ext e0.out)
        have BB := hid (below_ext BB.out BB.out.size e0.out)
        have hS : (w6.drew).cell? ⟨q, 1, none⟩ = some (.int .i64 xn) ∧ (w6.drew).cell? ⟨q, 2, none⟩ = some (.int .i64 xt) ∧ (w6.drew).cell? ⟨g2, 1, none⟩ = some (.int .i64 b) := ⟨XB.out.cell 1, XB.out.cell 2, KC.out.blk.cell 1⟩
        go_region_held3 (fun w' => w'.cell? ⟨q, 1, none⟩ = some (.int .i64 xn) ∧ w'.cell? ⟨q, 2, none⟩ = some (.int .i64 xt) ∧ w'.cell? ⟨g2, 1, none⟩ = some (.int .i64 b)) (go_keep) (first | (go_at_call 14; (refine (HB _ KB.out).mono ?_; rintro e w5 ⟨rfl, K5, g5⟩; have KC := hid (KC.out.grown g5 (fun h => HGG.out (Option.some.inj h))); have KB := hid K5; have XB := hid (XB.out.grown g5 (fun h => HQ1.out (Option.some.inj h))); have BB := hid (below_grown BB.out BB.out.size g5 hgle); have k5 : w5.cell? ⟨q, 1, none⟩ = some (.int .i64 xn) ∧ w5.cell? ⟨q, 2, none⟩ = some (.int .i64 xt) ∧ w5.cell? ⟨g2, 1, none⟩ = some (.int .i64 b) := ⟨XB.out.cell 1, XB.out.cell 2, KC.out.blk.cell 1⟩; clear K5 g5)) | (go_at_call 18; (refine (HC _ KC.out).mono ?_; rintro e w5 ⟨rfl, K5, g5⟩; have KB := hid (KB.out.grown g5 (fun h => HGG.out (Option.some.inj h).symm)); have KC := hid K5; have XB := hid (XB.out.grown g5 (fun h => HQ2.out (Option.some.inj h))); have BB := hid (below_grown BB.out BB.out.size g5 hgle2); have k5 : w5.cell? ⟨q, 1, none⟩ = some (.int .i64 xn) ∧ w5.cell? ⟨q, 2, none⟩ = some (.int .i64 xt) ∧ w5.cell? ⟨g2, 1, none⟩ = some (.int .i64 b) := ⟨XB.out.cell 1, XB.out.cell 2, KC.out.blk.cell 1⟩; clear K5 g5)))
        all_goals (clear HB HC hS)
        all_goals (go_wp2_with fail)
        all_goals (go_roundw; (case rel => exact ⟨k + 1, t1, a1, by omega, by go_num, KB, KC, BB⟩); (case measure => simp [intOf]; omega))
      by_cases p3 : pk = 3
      · subst p3
        have HB := fun (W : World) (hK : Bkt W g r b t a) => full_any xt hK hb3
        have HC := fun (W : World) (hK : RBk W g2 r b t a) => rtokens_any xt hK hb3
        generalize fillT r b t a xt = t1 at *
        generalize fillA a xt = a1 at *
        have n1 : ((t1 : Int) == (b : Int)) = (t1 == b) := by rw [Bool.eq_iff_iff]; simp; omega
        generalize (t1 == b) = tb at *
        have n2 : (tb == tb) = true := by simp
        go_wp2_with fail
        clear x1 x2
        have e0 := hid (ext_drew w6)
        have XB := hid (X0.out.ext e0.out)
        have KB := hid (KB.out.ext e0.out)
        have KC := hid (KC.out.ext e0.out)
        have BB := hid (below_ext BB.out BB.out.size e0.out)
        have hS : (w6.drew).cell? ⟨q, 1, none⟩ = some (.int .i64 xn) ∧ (w6.drew).cell? ⟨q, 2, none⟩ = some (.int .i64 xt) ∧ (w6.drew).cell? ⟨g2, 1, none⟩ = some (.int .i64 b) := ⟨XB.out.cell 1, XB.out.cell 2, KC.out.blk.cell 1⟩
        go_region_held3 (fun w' => w'.cell? ⟨q, 1, none⟩ = some (.int .i64 xn) ∧ w'.cell? ⟨q, 2, none⟩ = some (.int .i64 xt) ∧ w'.cell? ⟨g2, 1, none⟩ = some (.int .i64 b)) (go_keep) (first | (go_at_call 13; (refine (HB _ KB.out).mono ?_; rintro e w5 ⟨rfl, K5, g5⟩; have KC := hid (KC.out.grown g5 (fun h => HGG.out (Option.some.inj h))); have KB := hid K5; have XB := hid (XB.out.grown g5 (fun h => HQ1.out (Option.some.inj h))); have BB := hid (below_grown BB.out BB.out.size g5 hgle); have k5 : w5.cell? ⟨q, 1, none⟩ = some (.int .i64 xn) ∧ w5.cell? ⟨q, 2, none⟩ = some (.int .i64 xt) ∧ w5.cell? ⟨g2, 1, none⟩ = some (.int .i64 b) := ⟨XB.out.cell 1, XB.out.cell 2, KC.out.blk.cell 1⟩; clear K5 g5)) | (go_at_call 18; (refine (HC _ KC.out).mono ?_; rintro e w5 ⟨rfl, K5, g5⟩; have KB := hid (KB.out.grown g5 (fun h => HGG.out (Option.some.inj h).symm)); have KC := hid K5; have XB := hid (XB.out.grown g5 (fun h => HQ2.out (Option.some.inj h))); have BB := hid (below_grown BB.out BB.out.size g5 hgle2); have k5 : w5.cell? ⟨q, 1, none⟩ = some (.int .i64 xn) ∧ w5.cell? ⟨q, 2, none⟩ = some (.int .i64 xt) ∧ w5.cell? ⟨g2, 1, none⟩ = some (.int .i64 b) := ⟨XB.out.cell 1, XB.out.cell 2, KC.out.blk.cell 1⟩; clear K5 g5)))
        all_goals (clear HB HC hS)
        all_goals (go_wp2_with fail)
        all_goals (go_roundw; (case rel => exact ⟨k + 1, t1, a1, by omega, by go_num, KB, KC, BB⟩); (case measure => simp [intOf]; omega))
      by_cases p4 : pk = 4
      · subst p4
        have HB := fun (W : World) (hK : Bkt W g r b t a) => when_any xn xt hK hb3 hb2
        have HC := fun (W : World) (hK : RBk W g2 r b t a) => rwhen_any xn xt hK hb3 hb2
        generalize fillT r b t a xt = t1 at *
        generalize fillA a xt = a1 at *
        generalize whenS r b t1 xn = wh at *
        have n1 : (wh == wh) = true := by simp
        go_wp2_with fail
        clear x1 x2
        have e0 := hid (ext_drew w6)
        have XB := hid (X0.out.ext e0.out)
        have KB := hid (KB.out.ext e0.out)
        have KC := hid (KC.out.ext e0.out)
        have BB := hid (below_ext BB.out BB.out.size e0.out)
        have hS : (w6.drew).cell? ⟨q, 1, none⟩ = some (.int .i64 xn) ∧ (w6.drew).cell? ⟨q, 2, none⟩ = some (.int .i64 xt) ∧ (w6.drew).cell? ⟨g2, 1, none⟩ = some (.int .i64 b) := ⟨XB.out.cell 1, XB.out.cell 2, KC.out.blk.cell 1⟩
        go_region_held3 (fun w' => w'.cell? ⟨q, 1, none⟩ = some (.int .i64 xn) ∧ w'.cell? ⟨q, 2, none⟩ = some (.int .i64 xt) ∧ w'.cell? ⟨g2, 1, none⟩ = some (.int .i64 b)) (go_keep) (first | (go_at_call 15; (refine (HB _ KB.out).mono ?_; rintro e w5 ⟨rfl, K5, g5⟩; have KC := hid (KC.out.grown g5 (fun h => HGG.out (Option.some.inj h))); have KB := hid K5; have XB := hid (XB.out.grown g5 (fun h => HQ1.out (Option.some.inj h))); have BB := hid (below_grown BB.out BB.out.size g5 hgle); have k5 : w5.cell? ⟨q, 1, none⟩ = some (.int .i64 xn) ∧ w5.cell? ⟨q, 2, none⟩ = some (.int .i64 xt) ∧ w5.cell? ⟨g2, 1, none⟩ = some (.int .i64 b) := ⟨XB.out.cell 1, XB.out.cell 2, KC.out.blk.cell 1⟩; clear K5 g5)) | (go_at_call 19; (refine (HC _ KC.out).mono ?_; rintro e w5 ⟨rfl, K5, g5⟩; have KB := hid (KB.out.grown g5 (fun h => HGG.out (Option.some.inj h).symm)); have KC := hid K5; have XB := hid (XB.out.grown g5 (fun h => HQ2.out (Option.some.inj h))); have BB := hid (below_grown BB.out BB.out.size g5 hgle2); have k5 : w5.cell? ⟨q, 1, none⟩ = some (.int .i64 xn) ∧ w5.cell? ⟨q, 2, none⟩ = some (.int .i64 xt) ∧ w5.cell? ⟨g2, 1, none⟩ = some (.int .i64 b) := ⟨XB.out.cell 1, XB.out.cell 2, KC.out.blk.cell 1⟩; clear K5 g5)))
        all_goals (clear HB HC hS)
        all_goals (go_wp2_with fail)
        all_goals (go_roundw; (case rel => exact ⟨k + 1, t1, a1, by omega, by go_num, KB, KC, BB⟩); (case measure => simp [intOf]; omega))
      have z2 : ((pk : Int) == 2) = false := by rw [beq_eq_false_iff_ne]; omega
      have z3 : ((pk : Int) == 3) = false := by rw [beq_eq_false_iff_ne]; omega
      have z4 : ((pk : Int) == 4) = false := by rw [beq_eq_false_iff_ne]; omega
      clear p2 p3 p4
      · have HB := fun (W : World) (hK : Bkt W g r b t a) => take_any xn xt hK hb3
        have HC := fun (W : World) (hK : RBk W g2 r b t a) => rtake_any xn xt hK hb3
        generalize takeB r b t a xn xt = tb at *
        generalize takeT r b t a xn xt = t1 at *
        generalize takeA a xn xt = a1 at *
        have n1 : (tb == tb) = true := by simp
        go_wp2_with fail
        clear x1 x2
        have e0 := hid (ext_drew w6)
        have XB := hid (X0.out.ext e0.out)
        have KB := hid (KB.out.ext e0.out)
        have KC := hid (KC.out.ext e0.out)
        have BB := hid (below_ext BB.out BB.out.size e0.out)
        have hS : (w6.drew).cell? ⟨q, 1, none⟩ = some (.int .i64 xn) ∧ (w6.drew).cell? ⟨q, 2, none⟩ = some (.int .i64 xt) ∧ (w6.drew).cell? ⟨g2, 1, none⟩ = some (.int .i64 b) := ⟨XB.out.cell 1, XB.out.cell 2, KC.out.blk.cell 1⟩
        go_region_held3 (fun w' => w'.cell? ⟨q, 1, none⟩ = some (.int .i64 xn) ∧ w'.cell? ⟨q, 2, none⟩ = some (.int .i64 xt) ∧ w'.cell? ⟨g2, 1, none⟩ = some (.int .i64 b)) (go_keep) (first | (go_at_call 12; (refine (HB _ KB.out).mono ?_; rintro e w5 ⟨rfl, K5, g5⟩; have KC := hid (KC.out.grown g5 (fun h => HGG.out (Option.some.inj h))); have KB := hid K5; have XB := hid (XB.out.grown g5 (fun h => HQ1.out (Option.some.inj h))); have BB := hid (below_grown BB.out BB.out.size g5 hgle); have k5 : w5.cell? ⟨q, 1, none⟩ = some (.int .i64 xn) ∧ w5.cell? ⟨q, 2, none⟩ = some (.int .i64 xt) ∧ w5.cell? ⟨g2, 1, none⟩ = some (.int .i64 b) := ⟨XB.out.cell 1, XB.out.cell 2, KC.out.blk.cell 1⟩; clear K5 g5)) | (go_at_call 20; (refine (HC _ KC.out).mono ?_; rintro e w5 ⟨rfl, K5, g5⟩; have KB := hid (KB.out.grown g5 (fun h => HGG.out (Option.some.inj h).symm)); have KC := hid K5; have XB := hid (XB.out.grown g5 (fun h => HQ2.out (Option.some.inj h))); have BB := hid (below_grown BB.out BB.out.size g5 hgle2); have k5 : w5.cell? ⟨q, 1, none⟩ = some (.int .i64 xn) ∧ w5.cell? ⟨q, 2, none⟩ = some (.int .i64 xt) ∧ w5.cell? ⟨g2, 1, none⟩ = some (.int .i64 b) := ⟨XB.out.cell 1, XB.out.cell 2, KC.out.blk.cell 1⟩; clear K5 g5)))
        all_goals (clear HB HC hS)
        all_goals (go_wp2_with fail)
        all_goals (go_roundw; (case rel => exact ⟨k + 1, t1, a1, by omega, by go_num, KB, KC, BB⟩); (case measure => simp [intOf]; omega))
    · go_wp2_with fail
      refine (awake_yes _).mono ?_; rintro e w5 ⟨rfl, B5⟩
      have BZ := below_ext BB.out BB.out.size B5
      go_wp2_with fail
      go_ret
      exact ⟨rfl, BZ⟩
end Go.Proofs.Ythkhjhjlmneaoaa

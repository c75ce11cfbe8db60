/- math/bits.Div64: a number of two words by one, by the library's own text. -/
import Derived.Test.YthkhjhjlmneaoaaShelf
import Derived.Test.YthkhjhjlmneaoaaKnuth
import Derived.Test.YthkhjhjlmneaoaaKitA
import Derived.Deep.DeepCutAuto
import Derived.Deep.CutBlock
import Derived.Lib.ItoaNum
import Derived.Deep.QuietTactic
import Derived.BigQuiet
namespace Go.Proofs.Ythkhjhjlmneaoaa
open Go.BK Go.RowKit
set_option linter.unusedVariables false

theorem norm_ok (y : Nat) (h0 : y ≠ 0) (h2 : y < 18446744073709551616) : ∃ s : Nat, (64 : Int) - (Lib.bitLen y : Int) = s ∧ s ≤ 63 ∧ 9223372036854775808 ≤ y * 2 ^ s ∧ y * 2 ^ s < 18446744073709551616 ∧ 2 ^ s * 2 ^ (64 - s) = 18446744073709551616 := by
  obtain ⟨a, b, c⟩ := Lib.bitLenAux_bounds 64 y h2 h0
  have hle := Lib.bitLen_le y 64 (Nat.le_refl _) h2
  change Lib.bitLen y ≤ 64 at hle
  change 1 ≤ Lib.bitLen y at a
  change 2 ^ (Lib.bitLen y - 1) ≤ y at b
  change y < 2 ^ Lib.bitLen y at c
  generalize Lib.bitLen y = L at *
  have e1 : 2 ^ (L - 1) * 2 ^ (64 - L) = 9223372036854775808 := by rw [← Nat.pow_add, show L - 1 + (64 - L) = 63 from by omega]
  have e2 : 2 ^ L * 2 ^ (64 - L) = 18446744073709551616 := by rw [← Nat.pow_add, show L + (64 - L) = 64 from by omega]
  have e3 : 2 ^ (64 - L) * 2 ^ (64 - (64 - L)) = 18446744073709551616 := by rw [← Nat.pow_add, show 64 - L + (64 - (64 - L)) = 64 from by omega]
  have hp : 0 < 2 ^ (64 - L) := Nat.pow_pos (by decide)
  refine ⟨64 - L, by omega, by omega, ?_, ?_, e3⟩
  · rw [← e1]; exact Nat.mul_le_mul_right _ b
  · rw [← e2]; exact Nat.mul_lt_mul_of_pos_right c hp
theorem wrapN (a : Nat) (ha : a < 18446744073709551616) : IntKind.u64.wrap (a : Int) = (a : Int) := by rw [IntKind.wrap_u64]; omega
theorem wrapM (a : Nat) : IntKind.u64.wrap (a : Int) = ((a % 18446744073709551616 : Nat) : Int) := by rw [IntKind.wrap_u64]; omega
theorem maskN (a : Nat) (ha : a < 18446744073709551616) : bits .and .u64 (a : Int) 4294967295 = ((a % 4294967296 : Nat) : Int) := by
  have h := bits_and_u64_nat a 4294967295 ha (by omega)
  have e : a &&& 4294967295 = a % 4294967296 := Nat.and_two_pow_sub_one_eq_mod a 32
  rw [e] at h
  exact h

/-- A round's numbers. -/
structure Dig (d N v1 v0 u1 u32 q r : Nat) : Prop where
  ge : N / d ≤ q
  le : q ≤ 4294967297
  eq : q * v1 + r = u32
  r : r < 4294967296

theorem dig_more {d N v1 v0 u1 u32 q r : Nat} (G : Dig d N v1 v0 u1 u32 q r) (hd : 0 < d) (hdv : d = v1 * 4294967296 + v0) (hN : N = u32 * 4294967296 + u1) (hv0 : v0 < 4294967296) (h : N < q * d) :
    (4294967296 : Int) * r + u1 < ((q * v0 : Nat) : Int) ∧ 1 ≤ q ∧ (r + v1 < 4294967296 → Dig d N v1 v0 u1 u32 (q - 1) (r + v1)) ∧ (4294967296 ≤ r + v1 → q - 1 = N / d) := by
  have hst := knuth_step hd G.ge h
  have heq : (q - 1) * v1 + (r + v1) = u32 := by
    obtain ⟨q', rfl⟩ : ∃ q', q = q' + 1 := ⟨q - 1, by omega⟩
    have := G.eq
    rw [Nat.add_mul] at this
    simp only [Nat.add_sub_cancel]
    omega
  have ht := (knuth_test (B := 4294967296) (u1 := u1) hdv hN G.eq).1 h
  have hle := G.le
  refine ⟨by omega, hst.2, fun hb => ⟨hst.1, by omega, heq, hb⟩, fun hb => ?_⟩
  exact knuth_done hd hst.1 (knuth_break (B := 4294967296) hdv hN hv0 heq (by omega) hb)
theorem dig_done {d N v1 v0 u1 u32 q r : Nat} (G : Dig d N v1 v0 u1 u32 q r) (hd : 0 < d) (hdv : d = v1 * 4294967296 + v0) (hN : N = u32 * 4294967296 + u1) (hu : u32 < d) (hu1 : u1 < 4294967296) (h : ¬ N < q * d) :
    decide ((4294967296 : Int) ≤ (q : Int)) = false ∧ decide ((4294967296 : Int) * r + u1 < ((q * v0 : Nat) : Int)) = false ∧ q = N / d := by
  have ht := knuth_test (B := 4294967296) (u1 := u1) hdv hN G.eq
  have hb : ¬ 4294967296 ≤ q := fun hb => h (knuth_big (B := 4294967296) hu hu1 hN hb)
  refine ⟨?_, ?_, knuth_done hd G.ge (by omega)⟩
  · rw [decide_eq_false_iff_not]; omega
  · rw [decide_eq_false_iff_not]; omega
def DRel (d N v1 v0 u1 u32 : Nat) (a b : Value) : Prop := ∃ q r : Nat, Dig d N v1 v0 u1 u32 q r ∧ a = .int .u64 q ∧ b = .int .u64 r
def mq (a : Value) : Nat := (intOf a).toNat
theorem mq_lt (q : Nat) (h : 1 ≤ q) : mq (.int .u64 ((q : Int) - 1)) < mq (.int .u64 q) := by simp [mq, intOf]; omega

set_option maxRecDepth 100000 in
set_option maxHeartbeats 4000000 in
theorem div64_ok (hi lo y : Nat) (w : World) (h1 : hi < y) (h2 : y < 18446744073709551616) (h3 : lo < 18446744073709551616) :
    Calls Try.prog 34 #[.int .u64 hi, .int .u64 lo, .int .u64 y] w fun e w' => (∃ r : Int, e = .returned (.tuple #[.int .u64 (((hi * 18446744073709551616 + lo) / y : Nat) : Int), .int .u64 r])) ∧ ∃ m, w' = w.drewN m := by
  have hy0 : ¬ y = 0 := by omega
  by_cases hh : hi = 0
  · subst hh
    simp only [Nat.zero_mul, Nat.zero_add]
    go_enter Try.func34, Try.ntmps34
    go_wp2_with fail
    go_quiet (fail)
    go_wp2_with fail
    go_ret2
    have hw : IntKind.u64.wrap ((lo : Int) / (y : Int)) = ((lo / y : Nat) : Int) := by
      have := Nat.div_le_self lo y
      rw [← Int.natCast_ediv]
      exact wrapN _ (by omega)
    exact ⟨⟨(lo : Int) % y, by show Ending.returned (.tuple #[.int .u64 (IntKind.u64.wrap ((lo : Int) / y)), .int .u64 ((lo : Int) % y)]) = _; rw [hw]⟩, nq, rfl⟩
  obtain ⟨s, hs, hs64, hn1, hn2, hpq⟩ := norm_ok y hy0 h2
  have LZ := hid (fun W => Try.bits_LeadingZeros64 (y : Int) W (by omega) (by omega))
  rw [show ((y : Int)).toNat = y from by omega, hs] at LZ
  clear hs
  obtain ⟨d, hd⟩ : ∃ d, d = y * 2 ^ s := ⟨_, rfl⟩
  obtain ⟨v1, hv1⟩ : ∃ v, v = d / 4294967296 := ⟨_, rfl⟩
  obtain ⟨v0, hv0⟩ : ∃ v, v = d % 4294967296 := ⟨_, rfl⟩
  obtain ⟨xh, hxh⟩ : ∃ v, v = hi * 2 ^ s := ⟨_, rfl⟩
  obtain ⟨xl, hxl⟩ : ∃ v, v = lo / 2 ^ (64 - s) := ⟨_, rfl⟩
  obtain ⟨u32, hu32⟩ : ∃ v, v = hi * 2 ^ s + lo / 2 ^ (64 - s) := ⟨_, rfl⟩
  obtain ⟨u10, hu10⟩ : ∃ v, v = lo * 2 ^ s % 18446744073709551616 := ⟨_, rfl⟩
  obtain ⟨u1, hu1⟩ : ∃ v, v = u10 / 4294967296 := ⟨_, rfl⟩
  obtain ⟨u0, hu0⟩ : ∃ v, v = u10 % 4294967296 := ⟨_, rfl⟩
  have hnum := div64_nums 4294967296 18446744073709551616 (2 ^ s) (2 ^ (64 - s)) hi lo y d u32 u10 u1 u0 (by decide) (by decide) (Nat.pow_pos (by decide)) hpq h1 h3 hd (by rw [hd]; exact hn2) hu32 hu10 hu1 hu0
  obtain ⟨hu32d, hhip, hquo⟩ := hnum
  have hdn : 9223372036854775808 ≤ d ∧ d < 18446744073709551616 := by rw [hd]; exact ⟨hn1, hn2⟩
  have cp : ((2 ^ s : Nat) : Int) = 2 ^ s := by simp
  have cq : ((2 ^ (64 - s) : Nat) : Int) = 2 ^ (64 - s) := by simp
  have e1 : IntKind.u64.wrap ((y : Int) * 2 ^ s) = d := by rw [← cp, ← Int.natCast_mul, ← hd]; exact wrapN d hdn.2
  have e2 : (d : Int) / 4294967296 = v1 := by omega
  have e3 : bits .and .u64 (d : Int) 4294967295 = v0 := by rw [maskN d hdn.2, hv0]
  have e4 : IntKind.u64.wrap ((hi : Int) * 2 ^ s) = xh := by rw [← cp, ← Int.natCast_mul, ← hxh]; exact wrapN xh (by rw [hxh]; exact hhip)
  have e5 : (lo : Int) / 2 ^ (64 - s) = xl := by rw [← cq, hxl]; omega
  have e6 : bits .or .u64 (xh : Int) (xl : Int) = u32 := by
    have hxl2 : lo / 2 ^ (64 - s) < 2 ^ s := by rw [Nat.div_lt_iff_lt_mul (Nat.pow_pos (by decide)), hpq]; exact h3
    rw [bits_or_u64_nat xh xl (by rw [hxh]; exact hhip) (by rw [hxl]; exact Nat.lt_of_le_of_lt (Nat.div_le_self _ _) h3), hxh, hxl, or_disjoint _ _ _ hxl2, hu32]
  have e7 : IntKind.u64.wrap ((lo : Int) * 2 ^ s) = u10 := by rw [← cp, ← Int.natCast_mul, wrapM, hu10]
  have e8 : (u10 : Int) / 4294967296 = u1 := by omega
  have e9 : bits .and .u64 (u10 : Int) 4294967295 = u0 := by rw [maskN u10 (by omega), hu0]
  have hv1b : 2147483648 ≤ v1 ∧ v1 < 4294967296 := by omega
  have hv0b : v0 < 4294967296 := by omega
  have hv1p : ¬ v1 = 0 := by omega
  have hdv : d = v1 * 4294967296 + v0 := by omega
  have hu1b : u1 < 4294967296 := by omega
  have hu0b : u0 < 4294967296 := by omega
  -- the first digit
  obtain ⟨N1, hN1⟩ : ∃ N, N = u32 * 4294967296 + u1 := ⟨_, rfl⟩
  obtain ⟨k1, k2, k3, k4⟩ := knuth_first (B := 4294967296) (by decide) hdv hv0b (by omega) hu32d hu1b hN1
  obtain ⟨qa, hqa⟩ : ∃ q, q = u32 / v1 := ⟨_, rfl⟩
  obtain ⟨ra, hra⟩ : ∃ r, r = u32 % v1 := ⟨_, rfl⟩
  have hrab : ra < 4294967296 := by have := Nat.mod_lt u32 (show 0 < v1 by omega); omega
  obtain ⟨ma, hma⟩ : ∃ m, m = qa * v1 := ⟨_, rfl⟩
  rw [← hqa] at k1 k2 k4
  rw [← hra, ← hma] at k4
  have f1 : (u32 : Int) / v1 = qa := by rw [hqa]; omega
  have f1' : (u32 : Int).tdiv v1 = qa := by rw [Int.tdiv_eq_ediv_of_nonneg (by omega)]; exact f1
  have f2 : IntKind.u64.wrap ((qa : Int) * v1) = ma := by rw [← Int.natCast_mul, ← hma]; exact wrapN ma (by omega)
  have f3 : (u32 : Int) - ma = ra := by omega
  have hqb : qa ≤ 4294967297 := k2
  have hmu : ma ≤ u32 := by omega
  have D0 : Dig d N1 v1 v0 u1 u32 qa ra := ⟨k1, k2, by rw [← hma]; exact k4, hrab⟩
  have HQ := hid hquo
  have HN1 := hid hN1
  have HDV := hid hdv
  have K3 := hid k3
  have D0 := hid D0
  clear hd hv1 hv0 hxh hxl hu32 hu10 hu1 hu0 hpq hn1 hn2 hquo hdv hN1 hqa hra hma k1 k2 k3 k4 cp cq
  go_enter Try.func34, Try.ntmps34
  go_wp2_with fail
  refine (LZ.out _).mono ?_; rintro e w1 ⟨rfl, hw⟩; subst hw
  go_upto_block 0 with (fail)
  obtain ⟨q1, hq1⟩ : ∃ q, q = N1 / d := ⟨_, rfl⟩
  go_cut [15, 16] (fun a b wx => a = .int .u64 (q1 : Int) ∧ wx = w1)
  case first =>
    have HQ1 := hid hq1
    clear hq1
    go_wp2_with fail
    go_loopw [15, 16] (fun a b wr => DRel d N1 v1 v0 u1 u32 a b ∧ wr = w1) (fun a _ _ => mq a)
    case atStart => exact ⟨⟨qa, ra, D0.out, rfl, rfl⟩, rfl⟩
    case round =>
      obtain ⟨⟨q, r, G, rfl, rfl⟩, rfl⟩ := hrel
      have g1 := G.le
      have g2 := G.r
      obtain ⟨m, hm⟩ : ∃ m, m = q * v0 := ⟨_, rfl⟩
      have hsm : q * v0 ≤ 4294967297 * 4294967295 := Nat.mul_le_mul g1 (by omega)
      have em : IntKind.u64.wrap ((q : Int) * v0) = m := by rw [← Int.natCast_mul, ← hm]; exact wrapN m (by omega)
      by_cases htest : N1 < q * d
      · obtain ⟨hgt, hq0, hgo, hbk⟩ := dig_more G (by omega) HDV.out HN1.out hv0b htest
        rw [← hm] at hgt
        have hq1' : (1 : Int) ≤ q := by omega
        have g1' : (q : Int) ≤ 4294967297 := by omega
        have g2' : (r : Int) < 4294967296 := by omega
        have hv1b' : (v1 : Int) < 4294967296 := by omega
        have hu1b' : (u1 : Int) < 4294967296 := by omega
        by_cases hbr : r + v1 < 4294967296
        · have HG2 := hid (hgo hbr)
          have hdec : decide ((4294967296 : Int) ≤ (r : Int) + v1) = false := by rw [decide_eq_false_iff_not]; omega
          have Hm := hid hm
          clear hm G htest hsm hgo hbk hbr g1 g2 hq0 hhip h2 h3 e1 e3 e4 e5 e6 e7 e8 e9 f1 f1' f2 f3 hdn hv1b hv0b hu1b hu0b hrab hqb hmu
          by_cases hbig : (4294967296 : Int) ≤ q
          · go_wp2_with fail
            exact ⟨⟨⟨q - 1, r + v1, HG2.out, by rw [show ((q : Int) - 1) = ((q - 1 : Nat) : Int) from by omega], by rw [Int.natCast_add]⟩, trivial⟩, mq_lt q (by omega)⟩
          · have hbig' : decide ((4294967296 : Int) ≤ (q : Int)) = false := by rw [decide_eq_false_iff_not]; omega
            clear hbig
            go_wp2_with fail
            exact ⟨⟨⟨q - 1, r + v1, HG2.out, by rw [show ((q : Int) - 1) = ((q - 1 : Nat) : Int) from by omega], by rw [Int.natCast_add]⟩, trivial⟩, mq_lt q (by omega)⟩
        · have hfin := hid (hbk (by omega))
          have hdec : decide ((4294967296 : Int) ≤ (r : Int) + v1) = true := by rw [decide_eq_true_iff]; omega
          have hbb : (r : Int) + v1 ≤ 8589934592 := by omega
          have Hm := hid hm
          clear hm G htest hsm hgo hbk hbr g1 g2 hq0 hhip h2 h3 e1 e3 e4 e5 e6 e7 e8 e9 f1 f1' f2 f3 hdn hv1b hv0b hu1b hu0b hrab hqb hmu
          by_cases hbig : (4294967296 : Int) ≤ q
          · go_wp2_with fail
            go_meet
            exact ⟨by rw [HQ1.out, ← hfin.out, show ((q : Int) - 1) = ((q - 1 : Nat) : Int) from by omega], rfl⟩
          · have hbig' : decide ((4294967296 : Int) ≤ (q : Int)) = false := by rw [decide_eq_false_iff_not]; omega
            clear hbig
            go_wp2_with fail
            go_meet
            exact ⟨by rw [HQ1.out, ← hfin.out, show ((q : Int) - 1) = ((q - 1 : Nat) : Int) from by omega], rfl⟩
      · obtain ⟨hbig', hgt', hfin⟩ := dig_done G (by omega) HDV.out HN1.out hu32d hu1b htest
        rw [← hm] at hgt'
        have g1' : (q : Int) ≤ 4294967297 := by omega
        have g2' : (r : Int) < 4294967296 := by omega
        have hv1b' : (v1 : Int) < 4294967296 := by omega
        have hu1b' : (u1 : Int) < 4294967296 := by omega
        have Hm := hid hm
        have HF := hid hfin
        clear hm hfin G htest hsm g1 g2 hhip h2 h3 e1 e3 e4 e5 e6 e7 e8 e9 f1 f1' f2 f3 hdn hv1b hv0b hu1b hu0b hrab hqb hmu
        go_wp2_with fail
        go_meet
        exact ⟨by rw [HQ1.out, ← HF.out], rfl⟩
  case rest =>
    obtain ⟨rfl, rfl⟩ := hcut
    have hq1b : q1 < 4294967296 := by rw [hq1]; exact K3.out
    obtain ⟨u21, hu21⟩ : ∃ u, u = N1 % d := ⟨_, rfl⟩
    have hu21d : u21 < d := by rw [hu21]; exact Nat.mod_lt _ (by omega)
    have hdm : d * q1 + u21 = N1 := by rw [hq1, hu21]; exact Nat.div_add_mod N1 d
    obtain ⟨t1, ht1⟩ : ∃ t, t = u32 * 4294967296 % 18446744073709551616 := ⟨_, rfl⟩
    obtain ⟨t2, ht2⟩ : ∃ t, t = t1 + u1 := ⟨_, rfl⟩
    obtain ⟨p3, hp3⟩ : ∃ t, t = q1 * d := ⟨_, rfl⟩
    obtain ⟨t3, ht3⟩ : ∃ t, t = p3 % 18446744073709551616 := ⟨_, rfl⟩
    have hN1' := HN1.out
    have ht2b : t2 < 18446744073709551616 := by omega
    have i1 : IntKind.u64.wrap ((u32 : Int) * 4294967296) = t1 := by rw [IntKind.wrap_u64]; omega
    have i2 : (t1 : Int) + u1 = t2 := by omega
    have i3 : IntKind.u64.wrap ((q1 : Int) * d) = t3 := by rw [← Int.natCast_mul, ← hp3, wrapM, ht3]
    have i4 : IntKind.u64.wrap ((t2 : Int) - t3) = u21 := by
      rw [Nat.mul_comm] at hdm
      rw [← hp3] at hdm
      rw [IntKind.wrap_u64]
      omega
    obtain ⟨N0, hN0⟩ : ∃ N, N = u21 * 4294967296 + u0 := ⟨_, rfl⟩
    obtain ⟨k1, k2, k3, k4⟩ := knuth_first (B := 4294967296) (by decide) HDV.out hv0b (by omega) hu21d hu0b hN0
    obtain ⟨qb, hqb⟩ : ∃ q, q = u21 / v1 := ⟨_, rfl⟩
    obtain ⟨rb, hrb⟩ : ∃ r, r = u21 % v1 := ⟨_, rfl⟩
    have hrbb : rb < 4294967296 := by have := Nat.mod_lt u21 (show 0 < v1 by omega); omega
    obtain ⟨mb, hmb⟩ : ∃ m, m = qb * v1 := ⟨_, rfl⟩
    rw [← hqb] at k1 k2 k4
    rw [← hrb, ← hmb] at k4
    have j1 : (u21 : Int) / v1 = qb := by rw [hqb]; omega
    have j1' : (u21 : Int).tdiv v1 = qb := by rw [Int.tdiv_eq_ediv_of_nonneg (by omega)]; exact j1
    have j2 : IntKind.u64.wrap ((qb : Int) * v1) = mb := by rw [← Int.natCast_mul, ← hmb]; exact wrapN mb (by omega)
    have j3 : (u21 : Int) - mb = rb := by omega
    have hqbb : qb ≤ 4294967297 := k2
    have hmub : mb ≤ u21 := by omega
    have E0 := hid (show Dig d N0 v1 v0 u0 u21 qb rb from ⟨k1, k2, by rw [← hmb]; exact k4, hrbb⟩)
    obtain ⟨q0, hq0⟩ : ∃ q, q = N0 / d := ⟨_, rfl⟩
    have hq0b : q0 < 4294967296 := by rw [hq0]; exact k3
    have HFIN : Hid ((hi * 18446744073709551616 + lo) / y = q1 * 4294967296 + q0) := by
      have := HQ.out
      rw [← HN1.out, ← hq1, ← hu21, ← hN0, ← hq0] at this
      exact hid this
    have HN0 := hid hN0
    have HQ0 := hid hq0
    clear hq1 hu21 hdm ht1 ht2 hp3 ht3 hN1' hN0 k1 k2 k3 k4 hqb hrb hmb hq0 e1 e3 e4 e5 e6 e7 e8 e9 f1 f1' f2 f3 hhip h2 h3
    go_upto_block 2 with (fail)
    go_cut [18, 16] (fun a b wx => a = .int .u64 (q0 : Int) ∧ wx = wc)
    case first =>
      go_wp2_with fail
      go_loopw [18, 16] (fun a b wr => DRel d N0 v1 v0 u0 u21 a b ∧ wr = wc) (fun a _ _ => mq a)
      case atStart => exact ⟨⟨qb, rb, E0.out, rfl, rfl⟩, rfl⟩
      case round =>
        obtain ⟨⟨q, r, G, rfl, rfl⟩, rfl⟩ := hrel
        have g1 := G.le
        have g2 := G.r
        obtain ⟨m, hm⟩ : ∃ m, m = q * v0 := ⟨_, rfl⟩
        have hsm : q * v0 ≤ 4294967297 * 4294967295 := Nat.mul_le_mul g1 (by omega)
        have em : IntKind.u64.wrap ((q : Int) * v0) = m := by rw [← Int.natCast_mul, ← hm]; exact wrapN m (by omega)
        by_cases htest : N0 < q * d
        · obtain ⟨hgt, hq0, hgo, hbk⟩ := dig_more G (by omega) HDV.out HN0.out hv0b htest
          rw [← hm] at hgt
          have hq1' : (1 : Int) ≤ q := by omega
          have g1' : (q : Int) ≤ 4294967297 := by omega
          have g2' : (r : Int) < 4294967296 := by omega
          have hv1b' : (v1 : Int) < 4294967296 := by omega
          have hu0b' : (u0 : Int) < 4294967296 := by omega
          by_cases hbr : r + v1 < 4294967296
          · have HG2 := hid (hgo hbr)
            have hdec : decide ((4294967296 : Int) ≤ (r : Int) + v1) = false := by rw [decide_eq_false_iff_not]; omega
            have Hm := hid hm
            clear hm G htest hsm hgo hbk hbr g1 g2 hq0 hdn hv1b hv0b hu1b hu0b j1 j1' j2 j3 hqbb hmub hrbb i1 i2 i3 i4
            by_cases hbig : (4294967296 : Int) ≤ q
            · go_wp2_with fail
              exact ⟨⟨⟨q - 1, r + v1, HG2.out, by rw [show ((q : Int) - 1) = ((q - 1 : Nat) : Int) from by omega], by rw [Int.natCast_add]⟩, trivial⟩, mq_lt q (by omega)⟩
            · have hbig' : decide ((4294967296 : Int) ≤ (q : Int)) = false := by rw [decide_eq_false_iff_not]; omega
              clear hbig
              go_wp2_with fail
              exact ⟨⟨⟨q - 1, r + v1, HG2.out, by rw [show ((q : Int) - 1) = ((q - 1 : Nat) : Int) from by omega], by rw [Int.natCast_add]⟩, trivial⟩, mq_lt q (by omega)⟩
          · have hfin := hid (hbk (by omega))
            have hdec : decide ((4294967296 : Int) ≤ (r : Int) + v1) = true := by rw [decide_eq_true_iff]; omega
            have hbb : (r : Int) + v1 ≤ 8589934592 := by omega
            have Hm := hid hm
            clear hm G htest hsm hgo hbk hbr g1 g2 hq0 hdn hv1b hv0b hu1b hu0b j1 j1' j2 j3 hqbb hmub hrbb i1 i2 i3 i4
            by_cases hbig : (4294967296 : Int) ≤ q
            · go_wp2_with fail
              go_meet
              exact ⟨by rw [HQ0.out, ← hfin.out, show ((q : Int) - 1) = ((q - 1 : Nat) : Int) from by omega], rfl⟩
            · have hbig' : decide ((4294967296 : Int) ≤ (q : Int)) = false := by rw [decide_eq_false_iff_not]; omega
              clear hbig
              go_wp2_with fail
              go_meet
              exact ⟨by rw [HQ0.out, ← hfin.out, show ((q : Int) - 1) = ((q - 1 : Nat) : Int) from by omega], rfl⟩
        · obtain ⟨hbig', hgt', hfin⟩ := dig_done G (by omega) HDV.out HN0.out hu21d hu0b htest
          rw [← hm] at hgt'
          have g1' : (q : Int) ≤ 4294967297 := by omega
          have g2' : (r : Int) < 4294967296 := by omega
          have hv1b' : (v1 : Int) < 4294967296 := by omega
          have hu0b' : (u0 : Int) < 4294967296 := by omega
          have Hm := hid hm
          have HF := hid hfin
          clear hm hfin G htest hsm g1 g2 hdn hv1b hv0b hu1b hu0b j1 j1' j2 j3 hqbb hmub hrbb i1 i2 i3 i4
          go_wp2_with fail
          go_meet
          exact ⟨by rw [HQ0.out, ← HF.out], rfl⟩
    case rest =>
      obtain ⟨rfl, rfl⟩ := hcut
      clear HN0 HQ0 E0 hrbb hqbb hmub
      go_wp2_with fail
      go_ret2
      exact ⟨⟨_, by rw [HFIN.out, Int.natCast_add, Int.natCast_mul]; rfl⟩, 0, rfl⟩
end Go.Proofs.Ythkhjhjlmneaoaa

/- The document's Scale, bit by bit; sums. -/
import Derived.Test.YtghmhekbimfegaaSatB
namespace Go.Proofs.Ytghmhekbimfegaa
open Go.BK Go.RowKit
set_option linter.unusedVariables false

theorem i64_and1 (n : Int) : bits .and .i64 n 1 = n % 2 := by
  have h1 : (BitVec.ofInt 64 1).toNat = 2 ^ 1 - 1 := by decide
  have key : (BitVec.ofInt 64 n &&& BitVec.ofInt 64 1).toNat = (n % ((2 ^ 64 : Nat) : Int)).toNat % 2 ^ 1 := by
    rw [BitVec.toNat_and, BitVec.toNat_ofInt, h1, Nat.and_two_pow_sub_one_eq_mod]
  show IntKind.i64.wrap ((BitVec.ofInt 64 n &&& BitVec.ofInt 64 1).toNat : Nat) = n % 2
  rw [key, IntKind.wrap_i64]
  omega
theorem half_pow (x i : Nat) : x / 2 ^ i = 2 * (x / 2 ^ (i + 1)) + x / 2 ^ i % 2 := by
  rw [Nat.pow_succ, ← Nat.div_div_eq_div_mul]
  omega

/-- What a round of the document's Scale holds: j bits are still to be read. -/
def SRel (x y d : Nat) (t r i : Value) : Prop := ∃ j : Nat, ∃ k : Int, j ≤ 54 ∧ k = (j : Int) - 1 ∧ t = .int .i64 (toldN (x / 2 ^ j) y d : Nat) ∧ r = .int .i64 (restN (x / 2 ^ j) y d : Nat) ∧ i = .int .i64 k
def sm (i : Value) : Nat := (intOf i + 1).toNat
theorem sm_lt (i : Nat) : sm (.int .i64 ((i : Int) - 1)) < sm (.int .i64 i) := by simp [sm, intOf]

set_option maxRecDepth 100000 in
set_option maxHeartbeats 4000000 in
theorem rscale_any (a b c : Int) (w : World) : Calls Try.prog 21 #[.int .i64 a, .int .i64 b, .int .i64 c] w fun e w' => e = .returned (.int .i64 (scaleN (cutN a) (cutN b) (cutN c) : Nat)) ∧ w = w' := by
  have hx := cut_le a
  have hy := cut_le b
  have hz := cut_le c
  have c1 := hid (fun W => rcut_any a W)
  have c2 := hid (fun W => rcut_any b W)
  have c3 := hid (fun W => rcut_any c W)
  generalize cutN a = x at *
  generalize cutN b = y at *
  generalize cutN c = d at *
  have hSM : SM = 9007199254740992 := rfl
  rcases Nat.eq_zero_or_pos d with hd0 | hd0
  · subst hd0
    by_cases h0 : x = 0
    · subst h0
      rw [show scaleN 0 y 0 = 0 from by unfold scaleN; simp]
      clear hSM
      go_enter Try.func21, Try.ntmps21
      go_wp2_with fail
      refine (c1.out _).mono ?_; rintro e w1 ⟨rfl, rfl⟩
      go_wp2_with fail
      refine (c2.out _).mono ?_; rintro e w1 ⟨rfl, rfl⟩
      go_wp2_with fail
      refine (c3.out _).mono ?_; rintro e w1 ⟨rfl, rfl⟩
      go_wp2_with fail
      go_ret
      exact ⟨rfl, rfl⟩
    · have x0 : ((x : Int) == 0) = false := by rw [beq_eq_false_iff_ne]; omega
      by_cases h1 : y = 0
      · subst h1
        rw [show scaleN x 0 0 = 0 from by unfold scaleN; simp]
        clear hSM h0
        go_enter Try.func21, Try.ntmps21
        go_wp2_with fail
        refine (c1.out _).mono ?_; rintro e w1 ⟨rfl, rfl⟩
        go_wp2_with fail
        refine (c2.out _).mono ?_; rintro e w1 ⟨rfl, rfl⟩
        go_wp2_with fail
        refine (c3.out _).mono ?_; rintro e w1 ⟨rfl, rfl⟩
        go_wp2_with fail
        go_ret
        exact ⟨rfl, rfl⟩
      · have y0 : ((y : Int) == 0) = false := by rw [beq_eq_false_iff_ne]; omega
        have hne : x * y ≠ 0 := Nat.mul_ne_zero h0 h1
        rw [show scaleN x y 0 = 9007199254740992 from by unfold scaleN; rw [if_neg hne, if_pos rfl]]
        clear hSM h0 h1 hne
        go_enter Try.func21, Try.ntmps21
        go_wp2_with fail
        refine (c1.out _).mono ?_; rintro e w1 ⟨rfl, rfl⟩
        go_wp2_with fail
        refine (c2.out _).mono ?_; rintro e w1 ⟨rfl, rfl⟩
        go_wp2_with fail
        refine (c3.out _).mono ?_; rintro e w1 ⟨rfl, rfl⟩
        go_wp2_with fail
        go_ret
        exact ⟨rfl, rfl⟩
  · have d0 : ((d : Int) == 0) = false := by rw [beq_eq_false_iff_ne]; omega
    have d1 : ¬ d = 0 := by omega
    have hS : scaleN x y d = cutN (toldN x y d : Nat) := by
      unfold scaleN toldN cutN
      by_cases h0 : x * y = 0
      · rw [if_pos h0, h0]; simp
      · rw [if_neg h0, if_neg d1]
        generalize x * y / d = v
        omega
    rw [hS]
    have cS := hid (fun W => rcut_any (toldN x y d : Nat) W)
    generalize cutN (toldN x y d : Nat) = z at *
    obtain ⟨qy, hqy⟩ : ∃ q, q = y / d := ⟨_, rfl⟩
    obtain ⟨ry, hry⟩ : ∃ q, q = y % d := ⟨_, rfl⟩
    have e1 : (y : Int) / d = qy := by rw [hqy, Int.natCast_ediv]
    have e1' : (y : Int).tdiv d = qy := by rw [Int.tdiv_eq_ediv_of_nonneg (by omega)]; exact e1
    have e2 : (y : Int) % d = ry := by rw [hry, Int.natCast_emod]
    have e2' : (y : Int).tmod d = ry := by rw [Int.tmod_eq_emod_of_nonneg (by omega)]; exact e2
    have hqyb : qy ≤ 9007199254740992 := by have := Nat.div_le_self y d; omega
    have hryb : ry ≤ 9007199254740992 := by have := Nat.mod_le y d; omega
    have HQ := hid hqy
    have HR := hid hry
    have HD := hid hd0
    have hx54 : x / 2 ^ 54 = 0 := Nat.div_eq_of_lt (by omega)
    have HX := hid hx54
    clear hqy hry hd0 hS hSM hx54
    go_enter Try.func21, Try.ntmps21
    go_wp2_with fail
    refine (c1.out _).mono ?_; rintro e w1 ⟨rfl, rfl⟩
    go_wp2_with fail
    refine (c2.out _).mono ?_; rintro e w1 ⟨rfl, rfl⟩
    go_wp2_with fail
    refine (c3.out _).mono ?_; rintro e w1 ⟨rfl, hw⟩
    subst hw
    clear c1 c2 c3
    go_wp2_with fail
    go_loopw [10, 11, 12] (fun t r i wr => SRel x y d t r i ∧ wr = w) (fun _ _ i _ => sm i)
    case atStart =>
      refine ⟨⟨54, 53, Nat.le_refl _, rfl, ?_, ?_, rfl⟩, rfl⟩
      · rw [HX.out]; unfold toldN; rw [Nat.zero_mul, Nat.zero_div]; rfl
      · rw [HX.out]; unfold restN; rw [Nat.zero_mul, Nat.zero_mod]; rfl
    case round =>
      obtain ⟨⟨j, k, hj, hk, rfl, rfl, rfl⟩, rfl⟩ := hrel
      rcases j with _ | i
      · have hk' : k = -1 := by omega
        subst hk'
        simp only [Nat.pow_zero, Nat.div_one]
        clear hk hj
        go_wp2_with fail
        refine (cS.out _).mono ?_; rintro e w2 ⟨rfl, rfl⟩
        go_wp2_with fail
        go_ret
        exact ⟨rfl, rfl⟩
      · have hk' : k = (i : Int) := by omega
        subst hk'
        have hb2 : x / 2 ^ i % 2 ≤ 1 := by omega
        have hstep := told_step (x / 2 ^ (i + 1)) y d (x / 2 ^ i % 2) HD.out hb2
        rw [← half_pow x i] at hstep
        have ht0b : toldN (x / 2 ^ (i + 1)) y d ≤ 9007199254740993 := Nat.min_le_right _ _
        have hr0b : restN (x / 2 ^ (i + 1)) y d < d := Nat.mod_lt _ HD.out
        have hX1b : x / 2 ^ i ≤ 9007199254740992 := Nat.le_trans (Nat.div_le_self _ _) hx
        have e3 : (x : Int) / 2 ^ i = ((x / 2 ^ i : Nat) : Int) := by
          rw [Int.natCast_ediv]; simp
        generalize toldN (x / 2 ^ (i + 1)) y d = t0 at *
        generalize restN (x / 2 ^ (i + 1)) y d = r0 at *
        obtain ⟨X1, hX1⟩ : ∃ X, X = x / 2 ^ i := ⟨_, rfl⟩
        rw [← hX1] at hstep hX1b e3 hb2
        have hi53 : i ≤ 53 := by omega
        have HX1 := hid hX1
        clear hX1 hk
        obtain ⟨u, hu⟩ : ∃ u, u = (2 * r0 + X1 % 2 * ry) / d := ⟨_, rfl⟩
        obtain ⟨r1, hr1⟩ : ∃ u, u = (2 * r0 + X1 % 2 * ry) % d := ⟨_, rfl⟩
        rw [← HQ.out, ← HR.out, ← hu, ← hr1] at hstep
        have hub : u ≤ 27021597764222979 := by
          have h1 := Nat.div_le_self (2 * r0 + X1 % 2 * ry) d
          have h2 : X1 % 2 * ry ≤ 1 * ry := Nat.mul_le_mul_right _ hb2
          omega
        have hr1b : r1 < d := by rw [hr1]; exact Nat.mod_lt _ HD.out
        rcases (show X1 % 2 = 0 ∨ X1 % 2 = 1 by omega) with hb | hb
        · rw [hb] at hstep hu hr1
          simp only [Nat.zero_mul, Nat.add_zero] at hstep hu hr1
          have e4 : bits .and .i64 (X1 : Int) 1 = 0 := by rw [i64_and1]; omega
          have e5 : (2 * (r0 : Int)) / d = u := by rw [hu, Int.natCast_ediv, Int.natCast_mul]; rfl
          have e5' : (2 * (r0 : Int)).tdiv d = u := by rw [Int.tdiv_eq_ediv_of_nonneg (by omega)]; exact e5
          have e6 : (2 * (r0 : Int)) % d = r1 := by rw [hr1, Int.natCast_emod, Int.natCast_mul]; rfl
          have e6' : (2 * (r0 : Int)).tmod d = r1 := by rw [Int.tmod_eq_emod_of_nonneg (by omega)]; exact e6
          have HST := hid hstep
          by_cases hbig : SM < 2 * t0 + u
          · have hdec : decide ((9007199254740992 : Int) < 2 * (t0 : Int) + u) = true := by rw [decide_eq_true_iff]; have : SM = 9007199254740992 := rfl; omega
            have HB := hid hbig
            clear hu hr1 hstep hbig hb hb2
            go_wp2_with fail
            exact ⟨⟨⟨i, _, by omega, rfl, by rw [← HX1.out, HST.out.1]; show _ = Value.int .i64 ((if SM < 2 * t0 + u then SM + 1 else 2 * t0 + u : Nat) : Int); rw [if_pos HB.out]; rfl, by rw [← HX1.out, HST.out.2], rfl⟩, trivial⟩, sm_lt i⟩
          · have hdec : decide ((9007199254740992 : Int) < 2 * (t0 : Int) + u) = false := by rw [decide_eq_false_iff_not]; have : SM = 9007199254740992 := rfl; omega
            have HB := hid hbig
            clear hu hr1 hstep hbig hb hb2
            go_wp2_with fail
            exact ⟨⟨⟨i, _, by omega, rfl, by rw [← HX1.out, HST.out.1]; show _ = Value.int .i64 ((if SM < 2 * t0 + u then SM + 1 else 2 * t0 + u : Nat) : Int); rw [if_neg HB.out, Int.natCast_add, Int.natCast_mul]; rfl, by rw [← HX1.out, HST.out.2], rfl⟩, trivial⟩, sm_lt i⟩
        · rw [hb] at hstep hu hr1
          simp only [Nat.one_mul] at hstep hu hr1
          have e4 : bits .and .i64 (X1 : Int) 1 = 1 := by rw [i64_and1]; omega
          have e5 : (2 * (r0 : Int) + ry) / d = u := by rw [hu, Int.natCast_ediv, Int.natCast_add, Int.natCast_mul]; rfl
          have e5' : (2 * (r0 : Int) + ry).tdiv d = u := by rw [Int.tdiv_eq_ediv_of_nonneg (by omega)]; exact e5
          have e6 : (2 * (r0 : Int) + ry) % d = r1 := by rw [hr1, Int.natCast_emod, Int.natCast_add, Int.natCast_mul]; rfl
          have e6' : (2 * (r0 : Int) + ry).tmod d = r1 := by rw [Int.tmod_eq_emod_of_nonneg (by omega)]; exact e6
          have HST := hid hstep
          by_cases hbig : SM < 2 * t0 + qy + u
          · have hdec : decide ((9007199254740992 : Int) < 2 * (t0 : Int) + qy + u) = true := by rw [decide_eq_true_iff]; have : SM = 9007199254740992 := rfl; omega
            have HB := hid hbig
            clear hu hr1 hstep hbig hb hb2
            go_wp2_with fail
            exact ⟨⟨⟨i, _, by omega, rfl, by rw [← HX1.out, HST.out.1]; show _ = Value.int .i64 ((if SM < 2 * t0 + qy + u then SM + 1 else 2 * t0 + qy + u : Nat) : Int); rw [if_pos HB.out]; rfl, by rw [← HX1.out, HST.out.2], rfl⟩, trivial⟩, sm_lt i⟩
          · have hdec : decide ((9007199254740992 : Int) < 2 * (t0 : Int) + qy + u) = false := by rw [decide_eq_false_iff_not]; have : SM = 9007199254740992 := rfl; omega
            have HB := hid hbig
            clear hu hr1 hstep hbig hb hb2
            go_wp2_with fail
            exact ⟨⟨⟨i, _, by omega, rfl, by rw [← HX1.out, HST.out.1]; show _ = Value.int .i64 ((if SM < 2 * t0 + qy + u then SM + 1 else 2 * t0 + qy + u : Nat) : Int); rw [if_neg HB.out, Int.natCast_add, Int.natCast_add, Int.natCast_mul]; rfl, by rw [← HX1.out, HST.out.2], rfl⟩, trivial⟩, sm_lt i⟩
end Go.Proofs.Ytghmhekbimfegaa

/- SaturNever: no count ever wraps. SaturSums: what counts are together. -/
import Derived.Test.YtghmhekbimfegaaSatF
namespace Go.Proofs.Ytghmhekbimfegaa
open Go.BK Go.RowKit
set_option linter.unusedVariables false

theorem below_ext {b : Nat} {w w1 w2 : World} (B : Below b w w1) (hb : b ≤ w1.heap.size) (e : Ext w1 w2) : Below b w w2 := B.trans (e.mono hb)
set_option maxRecDepth 100000 in
set_option maxHeartbeats 4000000 in
theorem never_walk (a b c : Int) (w : World) (ha : -9223372036854775808 ≤ a ∧ a ≤ 9223372036854775807) (hb : -9223372036854775808 ≤ b ∧ b ≤ 9223372036854775807) (hc : -9223372036854775808 ≤ c ∧ c ≤ 9223372036854775807) :
    Calls Try.prog 8 #[.int .i64 a, .int .i64 b, .int .i64 c] w fun e w' => e = .returned (.bool true) ∧ Below w.heap.size w w' := by
  have hSM : SM = 9007199254740992 := rfl
  have hx := cut_le a
  have hy := cut_le b
  have hz := cut_le c
  have c1 := hid (fun W => add_any a b W)
  have c2 := hid (fun W => sub_any a b W)
  have c3 := hid (fun W => mul_any a b W)
  have c4 := hid (fun W => scale_any a b c W)
  have c5 := hid (fun W => div_any a b W)
  have c6 := hid (fun W => cut_any a W)
  have c7 := hid (fun W => cut_any b W)
  have c8 := hid (fun W => add_any b a W)
  have c9 := hid (fun W => mul_any b a W)
  have c10 := hid (fun W => add_any b c W)
  have c11 := hid (fun W => mul_any b c W)
  have c12 := hid (fun W => add_any (addN (cutN a) (cutN b) : Nat) c W)
  have c13 := hid (fun W => add_any a (addN (cutN b) (cutN c) : Nat) W)
  have c14 := hid (fun W => mul_any (mulN (cutN a) (cutN b) : Nat) c W)
  have c15 := hid (fun W => mul_any a (mulN (cutN b) (cutN c) : Nat) W)
  have c16 := hid (fun W => sub_any (addN (cutN a) (cutN b) : Nat) b W)
  rw [addN_comm] at c8
  rw [mulN_comm] at c9
  rw [cutN_of (addN_le _ _), addN_assoc] at c12
  rw [cutN_of (addN_le _ _)] at c13
  rw [cutN_of (mulN_eq _ _ ▸ Nat.min_le_right _ _), mul_assoc_sat _ _ _ (cutN_le _) (cutN_le _)] at c14
  rw [cutN_of (mulN_eq _ _ ▸ Nat.min_le_right _ _)] at c15
  rw [cutN_of (addN_le _ _)] at c16
  generalize cutN a = x at *
  generalize cutN b = y at *
  generalize cutN c = z at *
  have b1 : addN x y ≤ 9007199254740992 := addN_le _ _
  have b2 : x - y ≤ 9007199254740992 := by omega
  have b3 : mulN x y ≤ 9007199254740992 := by rw [mulN_eq]; exact Nat.min_le_right _ _
  have b4 : scaleN x y z ≤ 9007199254740992 := scaleN_le _ _ _
  have b5 : divN x y ≤ 9007199254740992 := scaleN_le _ _ _
  have g1 : x ≤ addN x y := by unfold addN; omega
  have g2 : y ≤ addN x y := by unfold addN; omega
  have g3 : x - y ≤ x := by omega
  have g4 : 0 < x → 0 < y → x ≤ mulN x y ∧ y ≤ mulN x y := fun h1 h2 => ⟨mulN_ge hx h2, by rw [mulN_comm]; exact mulN_ge hy h1⟩
  have g5 : x = 0 ∨ y = 0 → mulN x y = 0 := fun h => by
    rw [mulN_eq]
    rcases h with h | h
    · subst h; omega
    · subst h; omega
  have g6 : addN x y = 9007199254740992 ∨ addN x y - y = x := by unfold addN; omega
  generalize addN x y = s1 at *
  generalize x - y = s2 at *
  generalize mulN x y = s3 at *
  generalize scaleN x y z = s4 at *
  generalize divN x y = s5 at *
  generalize addN x (addN y z) = s6 at *
  generalize addN y z = s7 at *
  generalize mulN x (mulN y z) = s8 at *
  generalize mulN y z = s9 at *
  have e1 := hid (fun W => count_yes s1 b1 W)
  have e2 := hid (fun W => count_yes s2 b2 W)
  have e3 := hid (fun W => count_yes s3 b3 W)
  have e4 := hid (fun W => count_yes s4 b4 W)
  have e5 := hid (fun W => count_yes s5 b5 W)
  have f1 : decide (s1 < x) = false := by rw [decide_eq_false_iff_not]; omega
  have f2 : decide (s1 < y) = false := by rw [decide_eq_false_iff_not]; omega
  have f3 : decide (x < s2) = false := by rw [decide_eq_false_iff_not]; omega
  have HG6 := hid g6
  clear g6 b1 b2 b3 b4 b5 g1 g2 g3 hSM
  have hcase : (0 < x ∧ 0 < y ∧ x ≤ s3 ∧ y ≤ s3) ∨ (x = 0 ∧ s3 = 0) ∨ (0 < x ∧ y = 0 ∧ s3 = 0) := by
    rcases Nat.eq_zero_or_pos x with h | h
    · exact .inr (.inl ⟨h, g5 (.inl h)⟩)
    · rcases Nat.eq_zero_or_pos y with h2 | h2
      · exact .inr (.inr ⟨h, h2, g5 (.inr h2)⟩)
      · exact .inl ⟨h, h2, (g4 h h2).1, (g4 h h2).2⟩
  clear g4 g5
  obtain ⟨s10, hs10⟩ : ∃ s, s = s1 - y := ⟨_, rfl⟩
  rw [← hs10] at c16
  have G6 := HG6.out
  rw [← hs10] at G6
  have HG := hid G6
  clear hs10 HG6 G6
  rcases hcase with ⟨h1, h2, h3, h4⟩ | ⟨rfl, rfl⟩ | ⟨h1, rfl, rfl⟩
  · by_cases hM : s1 = 9007199254740992
    · skip
      have q1 : ((x : Int) == 0) = false := by rw [beq_eq_false_iff_ne]; omega
      have q2 : ((y : Int) == 0) = false := by rw [beq_eq_false_iff_ne]; omega
      have q3 : decide (s3 < x) = false := by rw [decide_eq_false_iff_not]; omega
      have q4 : decide (s3 < y) = false := by rw [decide_eq_false_iff_not]; omega
      clear h3 h4
      have qM : ((s1 : Int) == 9007199254740992) = true := by rw [beq_iff_eq]; omega
      clear hM
      go_enter Try.func8, Try.ntmps8
      go_wp2_with fail
      refine (known_yes _).mono ?_; rintro e wk ⟨rfl, xk⟩
      go_wp2_with fail
      refine (c1.out _).mono ?_; rintro e wx ⟨rfl, rfl⟩
      go_wp2_with fail
      refine (c2.out _).mono ?_; rintro e wx ⟨rfl, rfl⟩
      go_wp2_with fail
      refine (c3.out _).mono ?_; rintro e wx ⟨rfl, mc3, rfl⟩
      go_wp2_with fail
      refine (c4.out _).mono ?_; rintro e wx ⟨rfl, mc4, rfl⟩
      go_wp2_with fail
      refine (e1.out _).mono ?_; rintro e wx ⟨rfl, rfl⟩
      go_wp2_with fail
      refine (e2.out _).mono ?_; rintro e wx ⟨rfl, rfl⟩
      go_wp2_with fail
      refine (e3.out _).mono ?_; rintro e wx ⟨rfl, rfl⟩
      go_wp2_with fail
      refine (e4.out _).mono ?_; rintro e wx ⟨rfl, rfl⟩
      go_wp2_with fail
      refine (c5.out _).mono ?_; rintro e wx ⟨rfl, mc5, rfl⟩
      go_wp2_with fail
      refine (e5.out _).mono ?_; rintro e wx ⟨rfl, rfl⟩
      go_wp2_with fail
      refine (c6.out _).mono ?_; rintro e wx ⟨rfl, rfl⟩
      go_wp2_with fail
      refine (c7.out _).mono ?_; rintro e wx ⟨rfl, rfl⟩
      go_wp2_with fail
      refine (c8.out _).mono ?_; rintro e wx ⟨rfl, rfl⟩
      go_wp2_with fail
      refine (c9.out _).mono ?_; rintro e wx ⟨rfl, mc9, rfl⟩
      go_wp2_with fail
      refine (c12.out _).mono ?_; rintro e wx ⟨rfl, rfl⟩
      go_wp2_with fail
      refine (c10.out _).mono ?_; rintro e wx ⟨rfl, rfl⟩
      go_wp2_with fail
      refine (c13.out _).mono ?_; rintro e wx ⟨rfl, rfl⟩
      go_wp2_with fail
      refine (c14.out _).mono ?_; rintro e wx ⟨rfl, mc14, rfl⟩
      go_wp2_with fail
      refine (c11.out _).mono ?_; rintro e wx ⟨rfl, mc11, rfl⟩
      go_wp2_with fail
      refine (c15.out _).mono ?_; rintro e wx ⟨rfl, mc15, rfl⟩
      go_wp2_with fail
      go_ret
      exact ⟨rfl, below_ext xk xk.size (ext_drewN _ _)⟩
    · have hx10 : s10 = x := by have := HG.out; omega
      have q1 : ((x : Int) == 0) = false := by rw [beq_eq_false_iff_ne]; omega
      have q2 : ((y : Int) == 0) = false := by rw [beq_eq_false_iff_ne]; omega
      have q3 : decide (s3 < x) = false := by rw [decide_eq_false_iff_not]; omega
      have q4 : decide (s3 < y) = false := by rw [decide_eq_false_iff_not]; omega
      clear h3 h4
      have qM : ((s1 : Int) == 9007199254740992) = false := by rw [beq_eq_false_iff_ne]; omega
      subst hx10
      clear hM
      go_enter Try.func8, Try.ntmps8
      go_wp2_with fail
      refine (known_yes _).mono ?_; rintro e wk ⟨rfl, xk⟩
      go_wp2_with fail
      refine (c1.out _).mono ?_; rintro e wx ⟨rfl, rfl⟩
      go_wp2_with fail
      refine (c2.out _).mono ?_; rintro e wx ⟨rfl, rfl⟩
      go_wp2_with fail
      refine (c3.out _).mono ?_; rintro e wx ⟨rfl, mc3, rfl⟩
      go_wp2_with fail
      refine (c4.out _).mono ?_; rintro e wx ⟨rfl, mc4, rfl⟩
      go_wp2_with fail
      refine (e1.out _).mono ?_; rintro e wx ⟨rfl, rfl⟩
      go_wp2_with fail
      refine (e2.out _).mono ?_; rintro e wx ⟨rfl, rfl⟩
      go_wp2_with fail
      refine (e3.out _).mono ?_; rintro e wx ⟨rfl, rfl⟩
      go_wp2_with fail
      refine (e4.out _).mono ?_; rintro e wx ⟨rfl, rfl⟩
      go_wp2_with fail
      refine (c5.out _).mono ?_; rintro e wx ⟨rfl, mc5, rfl⟩
      go_wp2_with fail
      refine (e5.out _).mono ?_; rintro e wx ⟨rfl, rfl⟩
      go_wp2_with fail
      refine (c6.out _).mono ?_; rintro e wx ⟨rfl, rfl⟩
      go_wp2_with fail
      refine (c7.out _).mono ?_; rintro e wx ⟨rfl, rfl⟩
      go_wp2_with fail
      refine (c8.out _).mono ?_; rintro e wx ⟨rfl, rfl⟩
      go_wp2_with fail
      refine (c9.out _).mono ?_; rintro e wx ⟨rfl, mc9, rfl⟩
      go_wp2_with fail
      refine (c12.out _).mono ?_; rintro e wx ⟨rfl, rfl⟩
      go_wp2_with fail
      refine (c10.out _).mono ?_; rintro e wx ⟨rfl, rfl⟩
      go_wp2_with fail
      refine (c13.out _).mono ?_; rintro e wx ⟨rfl, rfl⟩
      go_wp2_with fail
      refine (c14.out _).mono ?_; rintro e wx ⟨rfl, mc14, rfl⟩
      go_wp2_with fail
      refine (c11.out _).mono ?_; rintro e wx ⟨rfl, mc11, rfl⟩
      go_wp2_with fail
      refine (c15.out _).mono ?_; rintro e wx ⟨rfl, mc15, rfl⟩
      go_wp2_with fail
      refine (c16.out _).mono ?_; rintro e wx ⟨rfl, rfl⟩
      go_wp2_with fail
      go_ret
      exact ⟨rfl, below_ext xk xk.size (ext_drewN _ _)⟩
  · by_cases hM : s1 = 9007199254740992
    · skip
      have qM : ((s1 : Int) == 9007199254740992) = true := by rw [beq_iff_eq]; omega
      clear hM
      go_enter Try.func8, Try.ntmps8
      go_wp2_with fail
      refine (known_yes _).mono ?_; rintro e wk ⟨rfl, xk⟩
      go_wp2_with fail
      refine (c1.out _).mono ?_; rintro e wx ⟨rfl, rfl⟩
      go_wp2_with fail
      refine (c2.out _).mono ?_; rintro e wx ⟨rfl, rfl⟩
      go_wp2_with fail
      refine (c3.out _).mono ?_; rintro e wx ⟨rfl, mc3, rfl⟩
      go_wp2_with fail
      refine (c4.out _).mono ?_; rintro e wx ⟨rfl, mc4, rfl⟩
      go_wp2_with fail
      refine (e1.out _).mono ?_; rintro e wx ⟨rfl, rfl⟩
      go_wp2_with fail
      refine (e2.out _).mono ?_; rintro e wx ⟨rfl, rfl⟩
      go_wp2_with fail
      refine (e3.out _).mono ?_; rintro e wx ⟨rfl, rfl⟩
      go_wp2_with fail
      refine (e4.out _).mono ?_; rintro e wx ⟨rfl, rfl⟩
      go_wp2_with fail
      refine (c5.out _).mono ?_; rintro e wx ⟨rfl, mc5, rfl⟩
      go_wp2_with fail
      refine (e5.out _).mono ?_; rintro e wx ⟨rfl, rfl⟩
      go_wp2_with fail
      refine (c6.out _).mono ?_; rintro e wx ⟨rfl, rfl⟩
      go_wp2_with fail
      refine (c7.out _).mono ?_; rintro e wx ⟨rfl, rfl⟩
      go_wp2_with fail
      refine (c8.out _).mono ?_; rintro e wx ⟨rfl, rfl⟩
      go_wp2_with fail
      refine (c9.out _).mono ?_; rintro e wx ⟨rfl, mc9, rfl⟩
      go_wp2_with fail
      refine (c12.out _).mono ?_; rintro e wx ⟨rfl, rfl⟩
      go_wp2_with fail
      refine (c10.out _).mono ?_; rintro e wx ⟨rfl, rfl⟩
      go_wp2_with fail
      refine (c13.out _).mono ?_; rintro e wx ⟨rfl, rfl⟩
      go_wp2_with fail
      refine (c14.out _).mono ?_; rintro e wx ⟨rfl, mc14, rfl⟩
      go_wp2_with fail
      refine (c11.out _).mono ?_; rintro e wx ⟨rfl, mc11, rfl⟩
      go_wp2_with fail
      refine (c15.out _).mono ?_; rintro e wx ⟨rfl, mc15, rfl⟩
      go_wp2_with fail
      go_ret
      exact ⟨rfl, below_ext xk xk.size (ext_drewN _ _)⟩
    · have hx10 : s10 = 0 := by have := HG.out; omega
      have qM : ((s1 : Int) == 9007199254740992) = false := by rw [beq_eq_false_iff_ne]; omega
      subst hx10
      clear hM
      go_enter Try.func8, Try.ntmps8
      go_wp2_with fail
      refine (known_yes _).mono ?_; rintro e wk ⟨rfl, xk⟩
      go_wp2_with fail
      refine (c1.out _).mono ?_; rintro e wx ⟨rfl, rfl⟩
      go_wp2_with fail
      refine (c2.out _).mono ?_; rintro e wx ⟨rfl, rfl⟩
      go_wp2_with fail
      refine (c3.out _).mono ?_; rintro e wx ⟨rfl, mc3, rfl⟩
      go_wp2_with fail
      refine (c4.out _).mono ?_; rintro e wx ⟨rfl, mc4, rfl⟩
      go_wp2_with fail
      refine (e1.out _).mono ?_; rintro e wx ⟨rfl, rfl⟩
      go_wp2_with fail
      refine (e2.out _).mono ?_; rintro e wx ⟨rfl, rfl⟩
      go_wp2_with fail
      refine (e3.out _).mono ?_; rintro e wx ⟨rfl, rfl⟩
      go_wp2_with fail
      refine (e4.out _).mono ?_; rintro e wx ⟨rfl, rfl⟩
      go_wp2_with fail
      refine (c5.out _).mono ?_; rintro e wx ⟨rfl, mc5, rfl⟩
      go_wp2_with fail
      refine (e5.out _).mono ?_; rintro e wx ⟨rfl, rfl⟩
      go_wp2_with fail
      refine (c6.out _).mono ?_; rintro e wx ⟨rfl, rfl⟩
      go_wp2_with fail
      refine (c7.out _).mono ?_; rintro e wx ⟨rfl, rfl⟩
      go_wp2_with fail
      refine (c8.out _).mono ?_; rintro e wx ⟨rfl, rfl⟩
      go_wp2_with fail
      refine (c9.out _).mono ?_; rintro e wx ⟨rfl, mc9, rfl⟩
      go_wp2_with fail
      refine (c12.out _).mono ?_; rintro e wx ⟨rfl, rfl⟩
      go_wp2_with fail
      refine (c10.out _).mono ?_; rintro e wx ⟨rfl, rfl⟩
      go_wp2_with fail
      refine (c13.out _).mono ?_; rintro e wx ⟨rfl, rfl⟩
      go_wp2_with fail
      refine (c14.out _).mono ?_; rintro e wx ⟨rfl, mc14, rfl⟩
      go_wp2_with fail
      refine (c11.out _).mono ?_; rintro e wx ⟨rfl, mc11, rfl⟩
      go_wp2_with fail
      refine (c15.out _).mono ?_; rintro e wx ⟨rfl, mc15, rfl⟩
      go_wp2_with fail
      refine (c16.out _).mono ?_; rintro e wx ⟨rfl, rfl⟩
      go_wp2_with fail
      go_ret
      exact ⟨rfl, below_ext xk xk.size (ext_drewN _ _)⟩
  · by_cases hM : s1 = 9007199254740992
    · skip
      have q1 : ((x : Int) == 0) = false := by rw [beq_eq_false_iff_ne]; omega
      have qM : ((s1 : Int) == 9007199254740992) = true := by rw [beq_iff_eq]; omega
      clear hM
      go_enter Try.func8, Try.ntmps8
      go_wp2_with fail
      refine (known_yes _).mono ?_; rintro e wk ⟨rfl, xk⟩
      go_wp2_with fail
      refine (c1.out _).mono ?_; rintro e wx ⟨rfl, rfl⟩
      go_wp2_with fail
      refine (c2.out _).mono ?_; rintro e wx ⟨rfl, rfl⟩
      go_wp2_with fail
      refine (c3.out _).mono ?_; rintro e wx ⟨rfl, mc3, rfl⟩
      go_wp2_with fail
      refine (c4.out _).mono ?_; rintro e wx ⟨rfl, mc4, rfl⟩
      go_wp2_with fail
      refine (e1.out _).mono ?_; rintro e wx ⟨rfl, rfl⟩
      go_wp2_with fail
      refine (e2.out _).mono ?_; rintro e wx ⟨rfl, rfl⟩
      go_wp2_with fail
      refine (e3.out _).mono ?_; rintro e wx ⟨rfl, rfl⟩
      go_wp2_with fail
      refine (e4.out _).mono ?_; rintro e wx ⟨rfl, rfl⟩
      go_wp2_with fail
      refine (c5.out _).mono ?_; rintro e wx ⟨rfl, mc5, rfl⟩
      go_wp2_with fail
      refine (e5.out _).mono ?_; rintro e wx ⟨rfl, rfl⟩
      go_wp2_with fail
      refine (c6.out _).mono ?_; rintro e wx ⟨rfl, rfl⟩
      go_wp2_with fail
      refine (c7.out _).mono ?_; rintro e wx ⟨rfl, rfl⟩
      go_wp2_with fail
      refine (c8.out _).mono ?_; rintro e wx ⟨rfl, rfl⟩
      go_wp2_with fail
      refine (c9.out _).mono ?_; rintro e wx ⟨rfl, mc9, rfl⟩
      go_wp2_with fail
      refine (c12.out _).mono ?_; rintro e wx ⟨rfl, rfl⟩
      go_wp2_with fail
      refine (c10.out _).mono ?_; rintro e wx ⟨rfl, rfl⟩
      go_wp2_with fail
      refine (c13.out _).mono ?_; rintro e wx ⟨rfl, rfl⟩
      go_wp2_with fail
      refine (c14.out _).mono ?_; rintro e wx ⟨rfl, mc14, rfl⟩
      go_wp2_with fail
      refine (c11.out _).mono ?_; rintro e wx ⟨rfl, mc11, rfl⟩
      go_wp2_with fail
      refine (c15.out _).mono ?_; rintro e wx ⟨rfl, mc15, rfl⟩
      go_wp2_with fail
      go_ret
      exact ⟨rfl, below_ext xk xk.size (ext_drewN _ _)⟩
    · have hx10 : s10 = x := by have := HG.out; omega
      have q1 : ((x : Int) == 0) = false := by rw [beq_eq_false_iff_ne]; omega
      have qM : ((s1 : Int) == 9007199254740992) = false := by rw [beq_eq_false_iff_ne]; omega
      subst hx10
      clear hM
      go_enter Try.func8, Try.ntmps8
      go_wp2_with fail
      refine (known_yes _).mono ?_; rintro e wk ⟨rfl, xk⟩
      go_wp2_with fail
      refine (c1.out _).mono ?_; rintro e wx ⟨rfl, rfl⟩
      go_wp2_with fail
      refine (c2.out _).mono ?_; rintro e wx ⟨rfl, rfl⟩
      go_wp2_with fail
      refine (c3.out _).mono ?_; rintro e wx ⟨rfl, mc3, rfl⟩
      go_wp2_with fail
      refine (c4.out _).mono ?_; rintro e wx ⟨rfl, mc4, rfl⟩
      go_wp2_with fail
      refine (e1.out _).mono ?_; rintro e wx ⟨rfl, rfl⟩
      go_wp2_with fail
      refine (e2.out _).mono ?_; rintro e wx ⟨rfl, rfl⟩
      go_wp2_with fail
      refine (e3.out _).mono ?_; rintro e wx ⟨rfl, rfl⟩
      go_wp2_with fail
      refine (e4.out _).mono ?_; rintro e wx ⟨rfl, rfl⟩
      go_wp2_with fail
      refine (c5.out _).mono ?_; rintro e wx ⟨rfl, mc5, rfl⟩
      go_wp2_with fail
      refine (e5.out _).mono ?_; rintro e wx ⟨rfl, rfl⟩
      go_wp2_with fail
      refine (c6.out _).mono ?_; rintro e wx ⟨rfl, rfl⟩
      go_wp2_with fail
      refine (c7.out _).mono ?_; rintro e wx ⟨rfl, rfl⟩
      go_wp2_with fail
      refine (c8.out _).mono ?_; rintro e wx ⟨rfl, rfl⟩
      go_wp2_with fail
      refine (c9.out _).mono ?_; rintro e wx ⟨rfl, mc9, rfl⟩
      go_wp2_with fail
      refine (c12.out _).mono ?_; rintro e wx ⟨rfl, rfl⟩
      go_wp2_with fail
      refine (c10.out _).mono ?_; rintro e wx ⟨rfl, rfl⟩
      go_wp2_with fail
      refine (c13.out _).mono ?_; rintro e wx ⟨rfl, rfl⟩
      go_wp2_with fail
      refine (c14.out _).mono ?_; rintro e wx ⟨rfl, mc14, rfl⟩
      go_wp2_with fail
      refine (c11.out _).mono ?_; rintro e wx ⟨rfl, mc11, rfl⟩
      go_wp2_with fail
      refine (c15.out _).mono ?_; rintro e wx ⟨rfl, mc15, rfl⟩
      go_wp2_with fail
      refine (c16.out _).mono ?_; rintro e wx ⟨rfl, rfl⟩
      go_wp2_with fail
      go_ret
      exact ⟨rfl, below_ext xk xk.size (ext_drewN _ _)⟩
end Go.Proofs.Ytghmhekbimfegaa

/- RrlBound: no answers; the walk, whole. -/
import Derived.Test.YtnoepnbgnlolbaaRrlAb
namespace Go.Proofs.Ytnoepnbgnlolbaa
open Go.BK Go.RowKit Go.Maps
set_option linter.unusedVariables false
set_option maxRecDepth 100000 in
set_option maxHeartbeats 4000000 in
theorem bound_nil (most limit window slip : Int) {A : Option Addr} {c : Nat} {C : Nat → Int} {Nm : Nat → ByteArray} {T : Nat → Int} (w : World) (hA : RActR w A 0 c C Nm T)
    (hl : 0 ≤ limit ∧ limit ≤ 1000) (hw : 1 ≤ window ∧ window ≤ 1000) (hp : Par.ok ⟨most, limit, window, slip⟩) :
    Calls Try.prog 5 #[.int .i64 most, .int .i64 limit, .int .i64 window, .int .i64 slip, .slice A 0 c] w fun e w' => e = .returned (.bool true) ∧ Below w.heap.size w w' := by
  have hc9 : c ≤ 9223372036854775807 := by have := hA.2.1; unfold maxLen at *; omega
  obtain ⟨i0, hi, hz0, hz1, hz2⟩ := info_parts info_int
  have HA := hid hA
  have HP := hid hp
  have d1 : decide (limit < 0) = false := by rw [decide_eq_false_iff_not]; omega
  have d2 : decide (1000 < limit) = false := by rw [decide_eq_false_iff_not]; omega
  have d3 : decide (window < 1) = false := by rw [decide_eq_false_iff_not]; omega
  have d4 : decide (1000 < window) = false := by rw [decide_eq_false_iff_not]; omega
  clear hA hp hl hw
  go_enter Try.func5, Try.ntmps5
  go_wp2_with fail
  refine (known_yes _).mono ?_; rintro e w1 ⟨rfl, B1⟩
  have HB1 := hid B1
  have HL := hid (long_any (HA.out.below B1))
  clear B1
  go_wp2_with fail
  refine HL.out.mono ?_; rintro e wx ⟨b, rfl, hx⟩
  subst hx
  clear HL
  cases b
  case true =>
    go_wp2_with fail
    go_ret
    exact ⟨rfl, HB1.out⟩
  go_wp2_with fail
  refine (any_new most limit window slip _ HP.out).mono ?_; rintro e w2 ⟨g, rfl, a2, x2⟩
  have hz2s : w.heap.size ≤ w2.heap.size := Nat.le_trans HB1.out.size x2.size
  have B2 := hid (below_next HB1.out HB1.out.size x2)
  clear a2 x2
  go_wp2_with (at_make; go_must (refine wpList_make_g (ok := isOne) (n := 0) (m := 0) rfl (.tmp 61) (.tmp 61) 38 rfl w.heap.size 3 i0 (.int .i64 0) 8 Try.underlying38 hi hz0 hz1 hz2 rfl rfl .i64 .i64 rfl rfl rfl rfl (Nat.le_refl _) (by omega) (by unfold maxLen; omega) hz2s ?_; intro w3 hown3 hext3 hsz3))
  have B3 := hid (below_next B2.out hz2s hext3)
  clear hown3 hext3 B2 HB1 d1 d2 d3 d4 hi hz0 hz1 hz2 hsz3
  go_loopw [15] (fun iv wr => iv = .int .i64 0 ∧ wr = w3) (fun _ _ => 0)
  case atStart => exact ⟨rfl, rfl⟩
  case round =>
    obtain ⟨rfl, hw3⟩ := hrel
    have hw3 := hw3.symm
    subst hw3
    go_wp2_with fail
    go_loopw [16] (fun iv wr => iv = .int .i64 0 ∧ wr = w3) (fun _ _ => 0)
    case atStart => exact ⟨rfl, rfl⟩
    case round =>
      obtain ⟨rfl, hw3⟩ := hrel
      have hw3 := hw3.symm
      subst hw3
      go_wp2_with fail
      go_ret
      exact ⟨rfl, B3.out⟩
theorem bound_walk (most limit window slip : Int) {A : Option Addr} {n c : Nat} {C : Nat → Int} {Nm : Nat → ByteArray} {T : Nat → Int} (w : World) (_ : -9223372036854775808 ≤ most ∧ most ≤ 9223372036854775807) (_ : -9223372036854775808 ≤ limit ∧ limit ≤ 9223372036854775807)
    (_ : -9223372036854775808 ≤ window ∧ window ≤ 9223372036854775807) (_ : -9223372036854775808 ≤ slip ∧ slip ≤ 9223372036854775807) (hA : RActR w A n c C Nm T) :
    Calls Try.prog 5 #[.int .i64 most, .int .i64 limit, .int .i64 window, .int .i64 slip, .slice A n c] w fun e w' => e = .returned (.bool true) ∧ Below w.heap.size w w' := by
  by_cases h : 0 ≤ limit ∧ limit ≤ 1000 ∧ 1 ≤ window ∧ window ≤ 1000 ∧ n ≤ 150 ∧ Par.ok ⟨most, limit, window, slip⟩
  · obtain ⟨h1, h2, h3, h4, h5, h6⟩ := h
    rcases Nat.eq_zero_or_pos n with rfl | h0
    · exact bound_nil most limit window slip w hA ⟨h1, h2⟩ ⟨h3, h4⟩ h6
    · exact bound_in most limit window slip w hA h5 h0 ⟨h1, h2⟩ ⟨h3, h4⟩ h6
  · refine bound_out most limit window slip w hA ?_
    by_cases hn : 150 < n
    · exact .inl hn
    refine .inr ⟨by omega, ?_⟩
    by_cases h1 : limit < 0
    · exact .inl h1
    refine .inr ⟨h1, ?_⟩
    by_cases h2 : 1000 < limit
    · exact .inl h2
    refine .inr ⟨h2, ?_⟩
    by_cases h3 : window < 1
    · exact .inl h3
    refine .inr ⟨h3, ?_⟩
    by_cases h4 : 1000 < window
    · exact .inl h4
    refine .inr ⟨h4, fun hp => h ⟨by omega, by omega, by omega, by omega, by omega, hp⟩⟩
end Go.Proofs.Ytnoepnbgnlolbaa

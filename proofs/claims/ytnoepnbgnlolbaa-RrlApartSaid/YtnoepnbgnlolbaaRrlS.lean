/- RrlApart: what other keys do changes nothing for one, as long as all can be looked after. -/
import Derived.Test.YtnoepnbgnlolbaaRrlR
namespace Go.Proofs.Ytnoepnbgnlolbaa
open Go.BK Go.RowKit Go.Maps
set_option linter.unusedVariables false

set_option maxRecDepth 100000 in
set_option maxHeartbeats 4000000 in
theorem apart_out (limit window slip : Int) {A : Option Addr} {n c : Nat} {C : Nat → Int} {Nm : Nat → ByteArray} {T : Nat → Int} (w : World) (hA : RActR w A n c C Nm T) (hn : 150 < n ∨ n ≤ 150 ∧ ¬ Par.ok ⟨200, limit, window, slip⟩) :
    Calls Try.prog 6 #[.int .i64 limit, .int .i64 window, .int .i64 slip, .slice A n c] w fun e w' => e = .returned (.bool true) ∧ Below w.heap.size w w' := by
  have hc9 : c ≤ 9223372036854775807 := by have := hA.2.1; unfold maxLen at *; omega
  have hn9 : n ≤ 9223372036854775807 := by have := hA.1; omega
  have HA := hid hA
  have HN := hid hn
  clear hA hn
  go_enter Try.func6, Try.ntmps6
  go_wp2_with fail
  refine (awake_yes _).mono ?_; rintro e w1 ⟨rfl, B1⟩
  have HB1 := hid B1
  have HL := hid (long_any (HA.out.below B1))
  clear B1
  go_wp2_with fail
  refine HL.out.mono ?_; rintro e wx ⟨b, rfl, hx⟩
  subst hx
  clear HL
  cases b
  case true =>
    go_wp2_with fail
    go_ret
    exact ⟨rfl, HB1.out⟩
  rcases HN.out with hn | ⟨hn, hp⟩
  · have hd : decide ((150 : Int) < (n : Int)) = true := by rw [decide_eq_true_iff]; omega
    go_wp2_with fail
    go_ret
    exact ⟨rfl, HB1.out⟩
  have hd : decide ((150 : Int) < (n : Int)) = false := by rw [decide_eq_false_iff_not]; omega
  have HP := hid hp
  have HP1 : Hid (¬ Par.ok ⟨1, limit, window, slip⟩) := by
    refine hid fun h => HP.out ?_
    unfold Par.ok at h ⊢
    simp only at h ⊢
    omega
  clear hp
  go_wp2_with fail
  refine (new_no 200 limit window slip _ HP.out).mono ?_; rintro e _ ⟨rfl, rfl⟩
  go_wp2_with fail
  refine (new_no 1 limit window slip _ HP1.out).mono ?_; rintro e _ ⟨rfl, rfl⟩
  go_wp2_with fail
  go_ret
  exact ⟨rfl, HB1.out⟩

set_option maxRecDepth 100000 in
set_option maxHeartbeats 4000000 in
theorem apart_nil (limit window slip : Int) {A : Option Addr} {c : Nat} {C : Nat → Int} {Nm : Nat → ByteArray} {T : Nat → Int} (w : World) (hA : RActR w A 0 c C Nm T) (hp : Par.ok ⟨200, limit, window, slip⟩) :
    Calls Try.prog 6 #[.int .i64 limit, .int .i64 window, .int .i64 slip, .slice A 0 c] w fun e w' => e = .returned (.bool true) ∧ Below w.heap.size w w' := by
  have hc9 : c ≤ 9223372036854775807 := by have := hA.2.1; unfold maxLen at *; omega
  have HA := hid hA
  have HP := hid hp
  have HP1 : Hid (Par.ok ⟨1, limit, window, slip⟩) := by
    refine hid ?_
    unfold Par.ok at hp ⊢
    simp only at hp ⊢
    omega
  clear hA hp
  go_enter Try.func6, Try.ntmps6
  go_wp2_with fail
  refine (awake_yes _).mono ?_; rintro e w1 ⟨rfl, B1⟩
  have HB1 := hid B1
  have HL := hid (long_any (HA.out.below B1))
  clear B1
  go_wp2_with fail
  refine HL.out.mono ?_; rintro e wx ⟨b, rfl, hx⟩
  subst hx
  clear HL
  cases b
  case true =>
    go_wp2_with fail
    go_ret
    exact ⟨rfl, HB1.out⟩
  go_wp2_with fail
  refine (all_new 200 limit window slip _ 0 ⟨#[]⟩ HP.out).mono ?_; rintro e w2 ⟨g, rfl, a2, x2⟩
  have X2 := hid x2
  clear a2 x2
  go_wp2_with fail
  refine (all_new 1 limit window slip _ 0 ⟨#[]⟩ HP1.out).mono ?_; rintro e w3 ⟨h, rfl, a3, x3⟩
  have HB3 := hid (below_ext (below_ext HB1.out HB1.out.size X2.out) (by have := HB1.out.size; have := X2.out.size; omega) x3)
  clear a3 X2 HB1 x3
  go_wp2_with fail
  go_loopw [14] (fun iv wr => iv = .int .i64 0 ∧ Hid (Below w.heap.size w wr)) (fun iv _ => 0)
  case atStart => exact ⟨rfl, HB3⟩
  case round =>
    obtain ⟨rfl, BB⟩ := hrel
    go_wp2_with fail
    go_quiet (fail)
    go_wp2_with fail
    go_ret
    exact ⟨rfl, below_ext BB.out BB.out.size (ext_drewN _ _)⟩

theorem apart_walk (limit window slip : Int) {A : Option Addr} {n c : Nat} {C : Nat → Int} {Nm : Nat → ByteArray} {T : Nat → Int} (w : World) (b1 : -9223372036854775808 ≤ limit ∧ limit ≤ 9223372036854775807) (b2 : -9223372036854775808 ≤ window ∧ window ≤ 9223372036854775807) (b3 : -9223372036854775808 ≤ slip ∧ slip ≤ 9223372036854775807) (hA : RActR w A n c C Nm T) :
    Calls Try.prog 6 #[.int .i64 limit, .int .i64 window, .int .i64 slip, .slice A n c] w fun e w' => e = .returned (.bool true) ∧ Below w.heap.size w w' := by
  by_cases hn : 150 < n
  · exact apart_out limit window slip w hA (.inl hn)
  by_cases hp : Par.ok ⟨200, limit, window, slip⟩
  · rcases Nat.eq_zero_or_pos n with rfl | h0
    · exact apart_nil limit window slip w hA hp
    · exact apart_in limit window slip w hA hp (by omega) h0
  · exact apart_out limit window slip w hA (.inr ⟨by omega, hp⟩)
end Go.Proofs.Ytnoepnbgnlolbaa

/- The chapter's examples of a bucket. -/
import Derived.Test.YthkhjhjlmneaoaaBukC
namespace Go.Proofs.Ythkhjhjlmneaoaa
open Go.BK Go.RowKit
set_option linter.unusedVariables false

section
variable {w w' : World} {g rate burst t a : Nat}
theorem take_to (n now : Int) (h : Bkt w g rate burst t a) (hn : -9223372036854775808 ≤ now ∧ now ≤ 9223372036854775807) {r : Bool} {t' a' : Nat} (hr : takeB rate burst t a n now = r) (ht : takeT rate burst t a n now = t') (ha : takeA a n now = a') :
    Calls Try.prog 12 #[.pointer (some ⟨g, 0, none⟩), .int .i64 n, .int .i64 now] w fun e w' => e = .returned (.bool r) ∧ Bkt w' g rate burst t' a' ∧ w.grownBy w' (some g) := by
  subst hr; subst ht; subst ha; exact take_any n now h hn
theorem tokens_to (now : Int) (h : Bkt w g rate burst t a) (hn : -9223372036854775808 ≤ now ∧ now ≤ 9223372036854775807) {t' a' : Nat} (ht : fillT rate burst t a now = t') (ha : fillA a now = a') :
    Calls Try.prog 14 #[.pointer (some ⟨g, 0, none⟩), .int .i64 now] w fun e w' => e = .returned (.int .i64 (t' : Nat)) ∧ Bkt w' g rate burst t' a' ∧ w.grownBy w' (some g) := by
  subst ht; subst ha; exact tokens_any now h hn
theorem full_to (now : Int) (h : Bkt w g rate burst t a) (hn : -9223372036854775808 ≤ now ∧ now ≤ 9223372036854775807) {r : Bool} {t' a' : Nat} (hr : (t' == burst) = r) (ht : fillT rate burst t a now = t') (ha : fillA a now = a') :
    Calls Try.prog 13 #[.pointer (some ⟨g, 0, none⟩), .int .i64 now] w fun e w' => e = .returned (.bool r) ∧ Bkt w' g rate burst t' a' ∧ w.grownBy w' (some g) := by
  subst ht; subst ha; subst hr; exact full_any now h hn
theorem when_to (n now : Int) (h : Bkt w g rate burst t a) (hn : -9223372036854775808 ≤ now ∧ now ≤ 9223372036854775807) (hnn : -9223372036854775808 ≤ n ∧ n ≤ 9223372036854775807) {r : Int} {t' a' : Nat} (hr : whenS rate burst t' n = r) (ht : fillT rate burst t a now = t') (ha : fillA a now = a') :
    Calls Try.prog 15 #[.pointer (some ⟨g, 0, none⟩), .int .i64 n, .int .i64 now] w fun e w' => e = .returned (.int .i64 r) ∧ Bkt w' g rate burst t' a' ∧ w.grownBy w' (some g) := by
  subst ht; subst ha; subst hr; exact when_any n now h hn hnn
end
theorem below_ext {b : Nat} {w w1 w2 : World} (B : Below b w w1) (hb : b ≤ w1.heap.size) (e : Ext w1 w2) : Below b w w2 := B.trans (e.mono hb)
theorem below_grown {b g : Nat} {w w1 w2 : World} (B : Below b w w1) (hb : b ≤ w1.heap.size) (e : w1.grownBy w2 (some g)) (hg : b ≤ g) : Below b w w2 := below_of_grown B hb e (fun k hk => by cases hk; exact hg)

set_option maxRecDepth 100000 in
set_option maxHeartbeats 2000000 in
theorem awake_yes (w : World) : Calls Try.prog 9 #[] w fun e w' => e = .returned (.bool true) ∧ Ext w w' := by
  go_enter Try.func9, Try.ntmps9
  go_wp2_with fail
  refine (new_ok 2 5 100 _ (by decide) (by decide) (by decide)).mono ?_; rintro e w1 ⟨rfl, K1, B1⟩
  obtain ⟨g, hg⟩ : ∃ g, g = w.heap.size := ⟨_, rfl⟩
  have hgle : w.heap.size ≤ g := by omega
  rw [← hg] at K1 ⊢
  clear hg
  go_wp2_with fail
  refine (take_to (r := true) (t' := 0) (a' := 100) 5 100 K1 (by decide) (by decide +kernel) (by decide +kernel) (by decide +kernel)).mono ?_; rintro e w2 ⟨rfl, K2, x⟩
  have B2 := below_grown B1 B1.size x hgle
  clear K1 B1 x
  go_wp2_with fail
  refine (take_to (r := false) (t' := 0) (a' := 100) 1 100 K2 (by decide) (by decide +kernel) (by decide +kernel) (by decide +kernel)).mono ?_; rintro e w3 ⟨rfl, K3, x⟩
  have B3 := below_grown B2 B2.size x hgle
  clear K2 B2 x
  go_wp2_with fail
  refine (take_to (r := true) (t' := 0) (a' := 101) 2 101 K3 (by decide) (by decide +kernel) (by decide +kernel) (by decide +kernel)).mono ?_; rintro e w4 ⟨rfl, K4, x⟩
  have B4 := below_grown B3 B3.size x hgle
  clear K3 B3 x
  go_wp2_with fail
  refine (take_to (r := false) (t' := 0) (a' := 101) 1 101 K4 (by decide) (by decide +kernel) (by decide +kernel) (by decide +kernel)).mono ?_; rintro e w5 ⟨rfl, K5, x⟩
  have B5 := below_grown B4 B4.size x hgle
  clear K4 B4 x
  go_wp2_with fail
  refine (tokens_to (t' := 4) (a' := 103) 103 K5 (by decide) (by decide +kernel) (by decide +kernel)).mono ?_; rintro e w6 ⟨rfl, K6, x⟩
  have B6 := below_grown B5 B5.size x hgle
  clear K5 B5 x
  go_wp2_with fail
  go_ret
  exact ⟨rfl, B6⟩

set_option maxRecDepth 100000 in
set_option maxHeartbeats 2000000 in
theorem known_walk (w : World) : Calls Try.prog 7 #[] w fun e w' => e = .returned (.bool true) ∧ Ext w w' := by
  go_enter Try.func7, Try.ntmps7
  go_wp2_with fail
  refine (new_ok 2 5 100 _ (by decide) (by decide) (by decide)).mono ?_; rintro e w1 ⟨rfl, K1, B1⟩
  obtain ⟨g, hg⟩ : ∃ g, g = w.heap.size := ⟨_, rfl⟩
  have hgle : w.heap.size ≤ g := by omega
  rw [← hg] at K1 ⊢
  clear hg
  go_wp2_with fail
  refine (new_no (-1) 5 0 _ (by decide +kernel)).mono ?_; rintro e wx ⟨rfl, rfl⟩
  go_wp2_with fail
  refine (new_no 1 1 (-1) _ (by decide +kernel)).mono ?_; rintro e wx ⟨rfl, rfl⟩
  go_wp2_with fail
  refine (take_to (r := true) (t' := 0) (a' := 100) 5 100 K1 (by decide) (by decide +kernel) (by decide +kernel) (by decide +kernel)).mono ?_; rintro e w2 ⟨rfl, K2, x⟩
  have B2 := below_grown B1 B1.size x hgle
  clear K1 B1 x
  go_wp2_with fail
  refine (tokens_to (t' := 4) (a' := 102) 102 K2 (by decide) (by decide +kernel) (by decide +kernel)).mono ?_; rintro e w3 ⟨rfl, K3, x⟩
  have B3 := below_grown B2 B2.size x hgle
  clear K2 B2 x
  go_wp2_with fail
  refine (tokens_to (t' := 4) (a' := 102) 50 K3 (by decide) (by decide +kernel) (by decide +kernel)).mono ?_; rintro e w4 ⟨rfl, K4, x⟩
  have B4 := below_grown B3 B3.size x hgle
  clear K3 B3 x
  go_wp2_with fail
  refine (awake_yes _).mono ?_; rintro e wz ⟨rfl, xz⟩
  have K5 := K4.ext xz
  have B5 := below_ext B4 B4.size xz
  clear K4 B4 xz
  go_wp2_with fail
  refine (full_to (r := true) (t' := 5) (a' := 104) 104 K5 (by decide) (by decide +kernel) (by decide +kernel) (by decide +kernel)).mono ?_; rintro e w6 ⟨rfl, K6, x⟩
  have B6 := below_grown B5 B5.size x hgle
  clear K5 B5 x
  go_wp2_with fail
  refine (full_to (r := true) (t' := 5) (a' := 104) 103 K6 (by decide) (by decide +kernel) (by decide +kernel) (by decide +kernel)).mono ?_; rintro e w7 ⟨rfl, K7, x⟩
  have B7 := below_grown B6 B6.size x hgle
  clear K6 B6 x
  go_wp2_with fail
  refine (take_to (r := true) (t' := 0) (a' := 104) 5 104 K7 (by decide) (by decide +kernel) (by decide +kernel) (by decide +kernel)).mono ?_; rintro e w8 ⟨rfl, K8, x⟩
  have B8 := below_grown B7 B7.size x hgle
  clear K7 B7 x
  go_wp2_with fail
  refine (when_to (r := 2) (t' := 0) (a' := 104) 4 104 K8 (by decide) (by decide) (by decide +kernel) (by decide +kernel) (by decide +kernel)).mono ?_; rintro e w9 ⟨rfl, K9, x⟩
  have B9 := below_grown B8 B8.size x hgle
  clear K8 B8 x
  go_wp2_with fail
  refine (when_to (r := (-1)) (t' := 0) (a' := 104) 6 104 K9 (by decide) (by decide) (by decide +kernel) (by decide +kernel) (by decide +kernel)).mono ?_; rintro e w10 ⟨rfl, K10, x⟩
  have B10 := below_grown B9 B9.size x hgle
  clear K9 B9 x
  go_wp2_with fail
  refine (when_to (r := 0) (t' := 0) (a' := 104) 0 104 K10 (by decide) (by decide) (by decide +kernel) (by decide +kernel) (by decide +kernel)).mono ?_; rintro e w11 ⟨rfl, K11, x⟩
  have B11 := below_grown B10 B10.size x hgle
  clear K10 B10 x
  go_wp2_with fail
  refine (take_to (r := false) (t' := 0) (a' := 104) (-1) 104 K11 (by decide) (by decide +kernel) (by decide +kernel) (by decide +kernel)).mono ?_; rintro e w12 ⟨rfl, K12, x⟩
  have B12 := below_grown B11 B11.size x hgle
  clear K11 B11 x
  go_wp2_with fail
  go_ret
  exact ⟨rfl, B12⟩
end Go.Proofs.Ythkhjhjlmneaoaa

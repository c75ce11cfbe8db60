/- OrderKnown: the chapter's examples are answered as it says. -/
import Derived.Test.YteehicennefcbaaOrdF
namespace Go.Proofs.Yteehicennefcbaa
open Go.BK Go.RowKit
set_option linter.unusedVariables false

set_option maxRecDepth 100000 in
set_option maxHeartbeats 4000000 in
theorem known_walk (w : World) : Calls Try.prog 6 #[] w fun e w' => e = .returned (.bool true) ∧ Ext w w' := by
  go_enter Try.func6, Try.ntmps6
  go_wp2_with fail
  refine (wino_new (b0 := w.heap.size) 2 _ (by decide) (by decide) (Nat.le_refl _)).mono ?_; rintro e w1 ⟨g, rfl, W1, B1⟩
  go_wp2_with fail
  refine (new_no 65 _ (by decide)).mono ?_; rintro e wx ⟨rfl, rfl⟩
  go_wp2_with fail
  refine (wino_open (r := (1, 0)) (L' := [none]) W1 (by decide) B1.size (by decide) (by decide)).mono ?_; rintro e w2 ⟨rfl, W2, x⟩
  have B2 := B1.trans x
  clear W1 B1 x
  go_wp2_with fail
  refine (wino_open (r := (2, 0)) (L' := [none, none]) W2 (by decide) B2.size (by decide) (by decide)).mono ?_; rintro e w3 ⟨rfl, W3, x⟩
  have B3 := B2.trans x
  clear W2 B2 x
  go_wp2_with fail
  have xa := ext_alloc w3 (.cells #[.int .u8 2] 5)
  have r5 := (Own.lit_at w3 w3.heap.size [2] 5 #[.int .u8 2] rfl rfl (by simp [maxLen])).rd
  have WA := W3.ext xa
  have BA := below_ext B3 B3.size xa
  refine (wino_done (O := []) (er := 0) (f' := 1) (L' := [none, some [2]]) 2 WA (by decide) BA.size r5 (by decide) (by decide) (by decide) (by decide) (by decide) rfl (show _ = 0 from rfl)).mono ?_; rintro e w4 ⟨A4, c4, rfl, R4, W4, x⟩
  have B4 := BA.trans x
  clear W3 B3 xa r5 WA BA x R4
  go_wp2_with fail
  refine (wino_ready (r := 1) W4 (by decide)).mono ?_; rintro e wx ⟨rfl, rfl⟩
  go_wp2_with fail
  have xa := ext_alloc w4 (.cells #[.int .u8 1] 5)
  have r5 := (Own.lit_at w4 w4.heap.size [1] 5 #[.int .u8 1] rfl rfl (by simp [maxLen])).rd
  have WA := W4.ext xa
  have BA := below_ext B4 B4.size xa
  refine (wino_done (O := [[1], [2]]) (er := 0) (f' := 3) (L' := []) 1 WA (by decide) BA.size r5 (by decide) (by decide) (by decide) (by decide) (by decide) rfl (show _ = 2 from rfl)).mono ?_; rintro e w5 ⟨A5, c5, rfl, R5, W5, x⟩
  have B5 := BA.trans x
  clear W4 B4 xa r5 WA BA x R5
  go_wp2_with fail
  refine (wino_done (O := []) (er := 6) (f' := 3) (L' := []) 1 W5 (by decide) B5.size (Rd.nil _) (by decide) (by decide) (by decide) (by decide) (by decide) rfl (show _ = 0 from rfl)).mono ?_; rintro e w6 ⟨A6, c6, rfl, R6, W6, x⟩
  have B6 := B5.trans x
  clear W5 B5 x R6
  go_wp2_with fail
  refine (wino_open (r := (3, 0)) (L' := [none]) W6 (by decide) B6.size (by decide) (by decide)).mono ?_; rintro e w7 ⟨rfl, W7, x⟩
  have B7 := B6.trans x
  clear W6 B6 x
  go_wp2_with fail
  refine (wino_done (O := [[]]) (er := 0) (f' := 4) (L' := []) 3 W7 (by decide) B7.size (Rd.nil _) (by decide) (by decide) (by decide) (by decide) (by decide) rfl (show _ = 1 from rfl)).mono ?_; rintro e w8 ⟨A8, c8, rfl, R8, W8, x⟩
  have B8 := B7.trans x
  obtain ⟨b9, o9, A9, c9, rfl, hb9, g9, rd9⟩ := R8.at_ (k := 0) (by decide)
  simp only [List.getD_cons_zero, List.length_nil, Nat.add_zero] at g9
  clear rd9
  clear W7 B7 x R8
  go_wp2_with fail
  refine (wino_first (r := 0) W8 (by decide) (by decide)).mono ?_; rintro e wx ⟨rfl, d9, rfl⟩
  have W9 := W8.ext (ext_drewN _ d9)
  have B9 := below_ext B8 B8.size (ext_drewN _ d9)
  try simp only [World.drewN_drewN] at W9 B9
  clear W8 B8 
  go_wp2_with fail
  refine (wino_len (r := 0) W9 (by decide) (by decide)).mono ?_; rintro e wx ⟨rfl, d10, rfl⟩
  have W10 := W9.ext (ext_drewN _ d10)
  have B10 := below_ext B9 B9.size (ext_drewN _ d10)
  try simp only [World.drewN_drewN] at W10 B10
  clear W9 B9 
  go_wp2_with fail
  refine (wino_open (r := (4, 0)) (L' := [none]) W10 (by decide) B10.size (by decide) (by decide)).mono ?_; rintro e w11 ⟨rfl, W11, x⟩
  have B11 := B10.trans x
  clear W10 B10 x
  go_wp2_with fail
  refine (wino_open (r := (5, 0)) (L' := [none, none]) W11 (by decide) B11.size (by decide) (by decide)).mono ?_; rintro e w12 ⟨rfl, W12, x⟩
  have B12 := B11.trans x
  clear W11 B11 x
  go_wp2_with fail
  refine (wino_done (O := []) (er := 0) (f' := 4) (L' := [none, some []]) 5 W12 (by decide) B12.size (Rd.nil _) (by decide) (by decide) (by decide) (by decide) (by decide) rfl (show _ = 0 from rfl)).mono ?_; rintro e w13 ⟨A13, c13, rfl, R13, W13, x⟩
  have B13 := B12.trans x
  clear W12 B12 x R13
  go_wp2_with fail
  refine (wino_done (O := []) (er := 7) (f' := 4) (L' := [none, some []]) 5 W13 (by decide) B13.size (Rd.nil _) (by decide) (by decide) (by decide) (by decide) (by decide) rfl (show _ = 0 from rfl)).mono ?_; rintro e w14 ⟨A14, c14, rfl, R14, W14, x⟩
  have B14 := B13.trans x
  clear W13 B13 x R14
  go_wp2_with fail
  refine (awake_yes _).mono ?_; rintro e wz ⟨rfl, x⟩
  have BZ := below_ext B14 B14.size x
  clear W14 B14 x
  go_wp2_with fail
  go_ret
  exact ⟨rfl, BZ⟩
end Go.Proofs.Yteehicennefcbaa

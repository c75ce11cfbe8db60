/- OctetKnown: the chapter's examples are answered as it says. -/
import Derived.Test.YtcbfpillplhgnaaOctetG
namespace Go.Proofs.Ytcbfpillplhgnaa
open Go.BK Go.RowKit
set_option linter.unusedVariables false

set_option maxHeartbeats 4000000 in
theorem known_walk (w : World) : Calls Try.prog 7 #[] w fun e w' => e = .returned (.bool true) ∧ Below w.heap.size w w' := by
  have H1 := hid (fun W => octet_Put16 65536 W)
  have H2 := hid (fun W => octet_Put32 65536 W)
  rw [show putS 2 65536 = ([], 5) from by decide] at H1
  rw [show putS 4 65536 = ([0, 1, 0, 0], 0) from by decide] at H2
  have G1 := hid (show getS [9, 1, 2] 2 2 = (0, 0, 4, 3) from by decide)
  have G2 := hid (show getS [9] 2 4 = (0, 0, 5, 0) from by decide)
  have B1 := hid (show bytesS [1, 2, 3] 1 2 = ([2, 3], 3, 0, 0) from by decide)
  have B2 := hid (show bytesS [1, 2, 3] 3 0 = ([], 3, 0, 0) from by decide)
  have B3 := hid (show bytesS [1] 0 (-1) = ([], 0, 2, 0) from by decide)
  go_enter Try.func7, Try.ntmps7
  go_wp2_with fail
  refine (H1.out _).mono ?_; rintro e w1 ⟨A1, c1, rfl, o1, x1⟩
  go_wp2_with fail
  refine (H2.out _).mono ?_; rintro e w2 ⟨A2, c2, rfl, o2, x2⟩
  go_wp2_with fail
  have r3 := (Own.lit_at w2 (w2.heap.size) [9, 1, 2] 5 #[.int .u8 9, .int .u8 1, .int .u8 2] (by first | rfl | simp) rfl (by simp [maxLen])).rd
  have c3 := octet_Get16 (l := [9, 1, 2]) 2 r3 (by decide) (by decide)
  rw [G1.out] at c3
  refine c3.mono ?_; rintro e w3 ⟨rfl, x3⟩
  have E3 := ext_trans (ext_alloc w2 (.cells #[.int .u8 9, .int .u8 1, .int .u8 2] 5)) x3
  clear c3 r3
  go_wp2_with fail
  have b3 := Blk.new w3 31 #[.int .i64 4, .int .i64 3]
  have r4 := (Own.lit_at (w3.alloc (.cells #[.int .i64 4, .int .i64 3] 31)) (w3.heap.size + 1) [9] 5 #[.int .u8 9] (by first | rfl | simp) rfl (by simp [maxLen])).rd
  have c4 := octet_Get32 (l := [9]) 2 r4 (by decide) (by decide)
  rw [G2.out] at c4
  refine c4.mono ?_; rintro e w4 ⟨rfl, x4⟩
  have b3 := (b3.alloc (.cells #[.int .u8 9] 5)).ext x4
  have E4 := ext_trans E3 (ext_trans (ext_trans (ext_alloc w3 (.cells #[.int .i64 4, .int .i64 3] 31)) (ext_alloc _ (.cells #[.int .u8 9] 5))) x4)
  clear c4 r4
  go_wp2_with fail
  have b3 := b3.alloc (.cells #[.int .i64 5, .int .i64 0] 31)
  have b4 := Blk.new w4 31 #[.int .i64 5, .int .i64 0]
  have r5 := (Own.lit_at (w4.alloc (.cells #[.int .i64 5, .int .i64 0] 31)) (w4.heap.size + 1) [1, 2, 3] 5 #[.int .u8 1, .int .u8 2, .int .u8 3] (by first | rfl | simp) rfl (by simp [maxLen])).rd
  have c5 := bytes_any (l := [1, 2, 3]) 1 2 r5 (by decide) (by decide) (by decide)
  rw [B1.out] at c5
  refine c5.mono ?_; rintro e w5 ⟨A5, k5, rfl, o5, x5⟩
  have b3 := (b3.alloc (.cells #[.int .u8 1, .int .u8 2, .int .u8 3] 5)).ext x5
  have b4 := (b4.alloc (.cells #[.int .u8 1, .int .u8 2, .int .u8 3] 5)).ext x5
  have E5 := ext_trans E4 (ext_trans (ext_trans (ext_alloc w4 (.cells #[.int .i64 5, .int .i64 0] 31)) (ext_alloc _ (.cells #[.int .u8 1, .int .u8 2, .int .u8 3] 5))) x5)
  clear c5 r5
  go_wp2_with fail
  have b3 := b3.alloc (.cells #[.int .i64 0, .int .i64 0] 31)
  have b4 := b4.alloc (.cells #[.int .i64 0, .int .i64 0] 31)
  have b5 := Blk.new w5 31 #[.int .i64 0, .int .i64 0]
  have o5 := o5.ext (ext_alloc w5 (.cells #[.int .i64 0, .int .i64 0] 31))
  have r6 := (Own.lit_at (w5.alloc (.cells #[.int .i64 0, .int .i64 0] 31)) (w5.heap.size + 1) [1, 2, 3] 5 #[.int .u8 1, .int .u8 2, .int .u8 3] (by first | rfl | simp) rfl (by simp [maxLen])).rd
  have c6 := bytes_any (l := [1, 2, 3]) 3 0 r6 (by decide) (by decide) (by decide)
  rw [B2.out] at c6
  refine c6.mono ?_; rintro e w6 ⟨A6, k6, rfl, o6, x6⟩
  have b3 := (b3.alloc (.cells #[.int .u8 1, .int .u8 2, .int .u8 3] 5)).ext x6
  have b4 := (b4.alloc (.cells #[.int .u8 1, .int .u8 2, .int .u8 3] 5)).ext x6
  have b5 := (b5.alloc (.cells #[.int .u8 1, .int .u8 2, .int .u8 3] 5)).ext x6
  have o5 := (o5.ext (ext_alloc _ (.cells #[.int .u8 1, .int .u8 2, .int .u8 3] 5))).ext x6
  have E6 := ext_trans E5 (ext_trans (ext_trans (ext_alloc w5 (.cells #[.int .i64 0, .int .i64 0] 31)) (ext_alloc _ (.cells #[.int .u8 1, .int .u8 2, .int .u8 3] 5))) x6)
  clear c6 r6
  go_wp2_with fail
  have b3 := b3.alloc (.cells #[.int .i64 0, .int .i64 0] 31)
  have b4 := b4.alloc (.cells #[.int .i64 0, .int .i64 0] 31)
  have b5 := b5.alloc (.cells #[.int .i64 0, .int .i64 0] 31)
  have b6 := Blk.new w6 31 #[.int .i64 0, .int .i64 0]
  have o5 := o5.ext (ext_alloc w6 (.cells #[.int .i64 0, .int .i64 0] 31))
  have o6 := o6.ext (ext_alloc w6 (.cells #[.int .i64 0, .int .i64 0] 31))
  have r7 := (Own.lit_at (w6.alloc (.cells #[.int .i64 0, .int .i64 0] 31)) (w6.heap.size + 1) [1] 5 #[.int .u8 1] (by first | rfl | simp) rfl (by simp [maxLen])).rd
  have c7 := bytes_any (l := [1]) 0 (-1) r7 (by decide) (by decide) (by decide)
  rw [B3.out] at c7
  refine c7.mono ?_; rintro e w7 ⟨A7, k7, rfl, o7, x7⟩
  have b3 := (b3.alloc (.cells #[.int .u8 1] 5)).ext x7
  have b4 := (b4.alloc (.cells #[.int .u8 1] 5)).ext x7
  have b5 := (b5.alloc (.cells #[.int .u8 1] 5)).ext x7
  have b6 := (b6.alloc (.cells #[.int .u8 1] 5)).ext x7
  have o5 := (o5.ext (ext_alloc _ (.cells #[.int .u8 1] 5))).ext x7
  have o6 := (o6.ext (ext_alloc _ (.cells #[.int .u8 1] 5))).ext x7
  have E7 := ext_trans E6 (ext_trans (ext_trans (ext_alloc w6 (.cells #[.int .i64 0, .int .i64 0] 31)) (ext_alloc _ (.cells #[.int .u8 1] 5))) x7)
  clear c7 r7
  go_wp2_with fail
  have b3 := b3.alloc (.cells #[.int .i64 2, .int .i64 0] 31)
  have b4 := b4.alloc (.cells #[.int .i64 2, .int .i64 0] 31)
  have b5 := b5.alloc (.cells #[.int .i64 2, .int .i64 0] 31)
  have b6 := b6.alloc (.cells #[.int .i64 2, .int .i64 0] 31)
  have b7 := Blk.new w7 31 #[.int .i64 2, .int .i64 0]
  have o5 := o5.ext (ext_alloc w7 (.cells #[.int .i64 2, .int .i64 0] 31))
  have o6 := o6.ext (ext_alloc w7 (.cells #[.int .i64 2, .int .i64 0] 31))
  have o7 := o7.ext (ext_alloc w7 (.cells #[.int .i64 2, .int .i64 0] 31))
  have hl1 := (Own.lit_at (w7.alloc (.cells #[.int .i64 2, .int .i64 0] 31)) (w7.heap.size + 1) [0, 1, 0, 0] 5 #[.int .u8 0, .int .u8 1, .int .u8 0, .int .u8 0] (by simp) rfl (by simp [maxLen])).rd
  have xa := ext_alloc (w7.alloc (.cells #[.int .i64 2, .int .i64 0] 31)) (.cells #[.int .u8 0, .int .u8 1, .int .u8 0, .int .u8 0] 5)
  have o2' := (o2.ext (ext_trans (ext_trans E7 (ext_alloc w7 (.cells #[.int .i64 2, .int .i64 0] 31))) xa)).rd
  refine (same_yes (a := [0, 1, 0, 0]) o2' hl1 rfl).mono ?_; rintro e wz ⟨rfl, rfl⟩
  have b3 := b3.alloc (.cells #[.int .u8 0, .int .u8 1, .int .u8 0, .int .u8 0] 5)
  have b4 := b4.alloc (.cells #[.int .u8 0, .int .u8 1, .int .u8 0, .int .u8 0] 5)
  have b5 := b5.alloc (.cells #[.int .u8 0, .int .u8 1, .int .u8 0, .int .u8 0] 5)
  have b6 := b6.alloc (.cells #[.int .u8 0, .int .u8 1, .int .u8 0, .int .u8 0] 5)
  have b7 := b7.alloc (.cells #[.int .u8 0, .int .u8 1, .int .u8 0, .int .u8 0] 5)
  have o5 := o5.ext xa
  have o6 := o6.ext xa
  have o7 := o7.ext xa
  obtain ⟨f3a, f3b, f3c⟩ := b3.two
  obtain ⟨f4a, f4b, f4c⟩ := b4.two
  have E8 := ext_trans (ext_trans E7 (ext_alloc w7 (.cells #[.int .i64 2, .int .i64 0] 31))) xa
  have EW := ext_trans (ext_trans x1 x2) E8
  clear hl1 o2' xa x1 x2 x3 x4 x5 x6 x7 E3 E4 E5 E6 E7 E8
  generalize hW8 : ((w7.alloc (.cells #[.int .i64 2, .int .i64 0] 31)).alloc (.cells #[.int .u8 0, .int .u8 1, .int .u8 0, .int .u8 0] 5)) = W8 at *
  clear hW8
  go_wp2_with fail
  clear f3a f3b f3c f4a f4b f4c
  refine (awake_yes _).mono ?_; rintro e w8 ⟨rfl, x8⟩
  have b5 := b5.ext x8
  have b6 := b6.ext x8
  have b7 := b7.ext x8
  have o5 := o5.ext x8
  go_wp2_with fail
  have hl2 := (Own.lit_at w8 (w8.heap.size) [2, 3] 5 #[.int .u8 2, .int .u8 3] rfl rfl (by simp [maxLen])).rd
  refine (same_yes (a := [2, 3]) (o5.ext (ext_alloc w8 _)).rd hl2 rfl).mono ?_; rintro e wz ⟨rfl, rfl⟩
  obtain ⟨f5a, f5b, f5c⟩ := (b5.alloc (.cells #[.int .u8 2, .int .u8 3] 5)).two
  obtain ⟨f6a, f6b, f6c⟩ := (b6.alloc (.cells #[.int .u8 2, .int .u8 3] 5)).two
  obtain ⟨f7a, f7b, f7c⟩ := (b7.alloc (.cells #[.int .u8 2, .int .u8 3] 5)).two
  have EF := ext_trans (ext_trans EW x8) (ext_alloc w8 (.cells #[.int .u8 2, .int .u8 3] 5))
  generalize hW9 : w8.alloc (.cells #[.int .u8 2, .int .u8 3] 5) = W9 at *
  clear hW9
  go_wp2_with fail
  go_ret
  exact ⟨rfl, EF⟩

end Go.Proofs.Ytcbfpillplhgnaa

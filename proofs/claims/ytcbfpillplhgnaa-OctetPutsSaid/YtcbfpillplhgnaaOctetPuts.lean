/- OctetPuts: the bytes of any number are told as the document says, or just the error; what is told is new memory. -/
import Derived.Test.YtcbfpillplhgnaaOctetG
namespace Go.Proofs.Ytcbfpillplhgnaa
open Go.BK Go.RowKit
set_option linter.unusedVariables false

set_option maxHeartbeats 4000000 in
theorem puts_walk (n : Int) (w : World) (hn : -9223372036854775808 ≤ n ∧ n ≤ 9223372036854775807) :
    Calls Try.prog 3 #[.int .i64 n] w fun e w' => e = .returned (.bool true) ∧ Below w.heap.size w w' := by
  have H1 := hid (fun W => octet_Put16 n W)
  have H2 := hid (fun W => ref_Put16 n W hn.2)
  have H3 := hid (fun W => octet_Put32 n W)
  have H4 := hid (fun W => ref_Put32 n W hn.2)
  generalize putS 2 n = r at *
  generalize putS 4 n = s at *
  obtain ⟨r, re⟩ := r
  obtain ⟨s, se⟩ := s
  go_enter Try.func3, Try.ntmps3
  go_wp2_with fail
  refine (H1.out _).mono ?_; rintro e w1 ⟨A1, c1, rfl, o1, x1⟩
  go_wp2_with fail
  refine (H2.out _).mono ?_; rintro e w2 ⟨A2, c2, rfl, o2, x2⟩
  go_wp2_with fail
  refine (H3.out _).mono ?_; rintro e w3 ⟨A3, c3, rfl, o3, x3⟩
  go_wp2_with fail
  refine (H4.out _).mono ?_; rintro e w4 ⟨A4, c4, rfl, o4, x4⟩
  go_wp2_with fail
  have x24 := ext_trans x3 x4
  have x14 := ext_trans x2 x24
  refine (same_yes (o1.ext x14).rd (o2.ext x24).rd rfl).mono ?_; rintro e w5 ⟨rfl, rfl⟩
  go_wp2_with fail
  refine (same_yes (o3.ext x4).rd o4.rd rfl).mono ?_; rintro e w5 ⟨rfl, rfl⟩
  go_wp2_with fail
  refine (over_bytes (o1.ext x14)).mono ?_; rintro e w5 ⟨rfl, g5, _⟩
  have p2 : Own w5 w1.heap.size 5 A2 c2 r := (o2.ext x24).grown g5 (ne_blk' o1 o2 (Nat.le_refl _))
  have p3 : Own w5 w2.heap.size 5 A3 c3 s := (o3.ext x4).grown g5 (ne_blk' o1 o3 x2.size)
  have p4 : Own w5 w3.heap.size 5 A4 c4 s := o4.grown g5 (ne_blk' o1 o4 (Nat.le_trans x2.size x3.size))
  go_wp2_with fail
  refine (over_bytes p3).mono ?_; rintro e w6 ⟨rfl, g6, _⟩
  have q2 : Own w6 w1.heap.size 5 A2 c2 r := p2.grown g6 (ne_blk o2 o3 (Nat.le_refl _))
  have q4 : Own w6 w3.heap.size 5 A4 c4 s := p4.grown g6 (ne_blk' o3 o4 (Nat.le_refl _))
  have b5 : Below w.heap.size w w5 := Below.grown (ext_trans x1 x14) g5 (by have := x1.size; have := x14.size; omega) fun g hg => (o1.lt g hg).1
  have b6 : Below w.heap.size w w6 := Below.grown b5 g6 b5.size fun g hg => by have := (o3.lt g hg).1; have := x1.size; have := x2.size; omega
  clear p2 p3 p4 o1 o2 o3 o4 x1 x2 x3 x4 x24 x14 g5 g6 b5
  go_wp2_with fail
  refine (H1.out _).mono ?_; rintro e w7 ⟨A7, c7, rfl, o7, x7⟩
  go_wp2_with fail
  refine (H3.out _).mono ?_; rintro e w8 ⟨A8, c8, rfl, o8, x8⟩
  go_wp2_with fail
  have x68 := ext_trans x7 x8
  refine (same_yes (o7.ext x8).rd (q2.ext x68).rd rfl).mono ?_; rintro e w9 ⟨rfl, rfl⟩
  go_wp2_with fail
  refine (same_yes o8.rd (q4.ext x68).rd rfl).mono ?_; rintro e w9 ⟨rfl, rfl⟩
  go_wp2_with fail
  refine (awake_yes _).mono ?_; rintro e w9 ⟨rfl, x9⟩
  go_wp2_with fail
  go_ret
  exact ⟨rfl, Below.trans b6 ((ext_trans x68 x9).mono b6.size)⟩

end Go.Proofs.Ytcbfpillplhgnaa

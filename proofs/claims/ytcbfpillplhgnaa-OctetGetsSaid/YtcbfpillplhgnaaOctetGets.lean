/- OctetGets: which number any bytes are, at a place, and which bytes stand there, is told as the document says, or just the fault. -/
import Derived.Test.YtcbfpillplhgnaaOctetG
namespace Go.Proofs.Ytcbfpillplhgnaa
open Go.BK Go.RowKit
set_option linter.unusedVariables false

set_option maxHeartbeats 4000000 in
theorem gets_walk {A : Option Addr} {c : Nat} {l : List UInt8} (a n : Int) (w : World) (hb : Rd w A c l) (ha : -9223372036854775808 ≤ a ∧ a ≤ 9223372036854775807) (hn : -9223372036854775808 ≤ n ∧ n ≤ 9223372036854775807) :
    Calls Try.prog 6 #[.slice A l.length c, .int .i64 a, .int .i64 n] w fun e w' => e = .returned (.bool true) ∧ Below w.heap.size w w' := by
  have hnl := hb.n_le
  by_cases hlen : 1000 < l.length
  · go_enter Try.func6, Try.ntmps6
    go_wp2
    go_ret
    exact ⟨rfl, Below.refl _ _⟩
  · have hl : l.length ≤ 140737488355328 := by omega
    have C1 := hid (fun W A c (h : Rd W A c l) => octet_Get16 a h hl ha)
    have C2 := hid (fun W A c (h : Rd W A c l) => ref_Get16 a h hl ha)
    have C3 := hid (fun W A c (h : Rd W A c l) => octet_Get32 a h hl ha)
    have C4 := hid (fun W A c (h : Rd W A c l) => ref_Get32 a h hl ha)
    have C5 := hid (fun W A c (h : Rd W A c l) => bytes_any a n h hl ha hn)
    have C6 := hid (fun W A c (h : Rd W A c l) => refbytes_any a n h hl ha hn)
    generalize getS l a 2 = r at *
    generalize getS l a 4 = s at *
    generalize bytesS l a n = t at *
    obtain ⟨r1, r2, r3, r4⟩ := r
    obtain ⟨s1, s2, s3, s4⟩ := s
    obtain ⟨t1, t2, t3, t4⟩ := t
    go_enter Try.func6, Try.ntmps6
    go_wp2_with fail
    refine (lent_bytes hb hl).mono ?_; rintro e w1 ⟨g, rfl, ol, x1⟩
    have hin : Rd w1 (some ⟨g, 0, none⟩) (l.length + 3) l := lent_rd ol
    have hb1 := hb.ext x1
    have E1 := x1
    clear hb x1
    go_wp2_with fail
    refine (C1.out _ _ _ hin).mono ?_; rintro e w2 ⟨rfl, x2⟩
    have hin := hin.ext x2
    have hb1 := hb1.ext x2
    have ol := ol.ext x2
    have E2 := ext_trans E1 x2
    go_wp2_with fail
    have hin := hin.ext (ext_alloc w2 (.cells #[.int .i64 r3, .int .i64 r4] 31))
    have hb1 := hb1.ext (ext_alloc w2 (.cells #[.int .i64 r3, .int .i64 r4] 31))
    have ol := ol.ext (ext_alloc w2 (.cells #[.int .i64 r3, .int .i64 r4] 31))
    have E2 := ext_trans E2 (ext_alloc w2 (.cells #[.int .i64 r3, .int .i64 r4] 31))
    have b2 := Blk.new w2 31 #[.int .i64 r3, .int .i64 r4]
    refine (C2.out _ _ _ hb1).mono ?_; rintro e w3 ⟨rfl, x3⟩
    have hin := hin.ext x3
    have hb1 := hb1.ext x3
    have ol := ol.ext x3
    have E3 := ext_trans E2 x3
    have b2 := b2.ext x3
    go_wp2_with fail
    have hin := hin.ext (ext_alloc w3 (.cells #[.int .i64 r3, .int .i64 r4] 31))
    have hb1 := hb1.ext (ext_alloc w3 (.cells #[.int .i64 r3, .int .i64 r4] 31))
    have ol := ol.ext (ext_alloc w3 (.cells #[.int .i64 r3, .int .i64 r4] 31))
    have E3 := ext_trans E3 (ext_alloc w3 (.cells #[.int .i64 r3, .int .i64 r4] 31))
    have b2 := b2.alloc (.cells #[.int .i64 r3, .int .i64 r4] 31)
    have b3 := Blk.new w3 31 #[.int .i64 r3, .int .i64 r4]
    refine (C3.out _ _ _ hin).mono ?_; rintro e w4 ⟨rfl, x4⟩
    have hin := hin.ext x4
    have hb1 := hb1.ext x4
    have ol := ol.ext x4
    have E4 := ext_trans E3 x4
    have b2 := b2.ext x4
    have b3 := b3.ext x4
    go_wp2_with fail
    have hin := hin.ext (ext_alloc w4 (.cells #[.int .i64 s3, .int .i64 s4] 31))
    have hb1 := hb1.ext (ext_alloc w4 (.cells #[.int .i64 s3, .int .i64 s4] 31))
    have ol := ol.ext (ext_alloc w4 (.cells #[.int .i64 s3, .int .i64 s4] 31))
    have E4 := ext_trans E4 (ext_alloc w4 (.cells #[.int .i64 s3, .int .i64 s4] 31))
    have b2 := b2.alloc (.cells #[.int .i64 s3, .int .i64 s4] 31)
    have b3 := b3.alloc (.cells #[.int .i64 s3, .int .i64 s4] 31)
    have b4 := Blk.new w4 31 #[.int .i64 s3, .int .i64 s4]
    refine (C4.out _ _ _ hb1).mono ?_; rintro e w5 ⟨rfl, x5⟩
    have hin := hin.ext x5
    have hb1 := hb1.ext x5
    have ol := ol.ext x5
    have E5 := ext_trans E4 x5
    have b2 := b2.ext x5
    have b3 := b3.ext x5
    have b4 := b4.ext x5
    go_wp2_with fail
    have hin := hin.ext (ext_alloc w5 (.cells #[.int .i64 s3, .int .i64 s4] 31))
    have hb1 := hb1.ext (ext_alloc w5 (.cells #[.int .i64 s3, .int .i64 s4] 31))
    have ol := ol.ext (ext_alloc w5 (.cells #[.int .i64 s3, .int .i64 s4] 31))
    have E5 := ext_trans E5 (ext_alloc w5 (.cells #[.int .i64 s3, .int .i64 s4] 31))
    have b2 := b2.alloc (.cells #[.int .i64 s3, .int .i64 s4] 31)
    have b3 := b3.alloc (.cells #[.int .i64 s3, .int .i64 s4] 31)
    have b4 := b4.alloc (.cells #[.int .i64 s3, .int .i64 s4] 31)
    have b5 := Blk.new w5 31 #[.int .i64 s3, .int .i64 s4]
    have ol0 := ol
    have hb0 := hb1
    refine (C5.out _ _ _ hin).mono ?_; rintro e w6 ⟨A6, c6, rfl, o6, x6⟩
    have hin := hin.ext x6
    have hb1 := hb1.ext x6
    have ol := ol.ext x6
    have E6 := ext_trans E5 x6
    have o60 := o6
    have b2 := b2.ext x6
    have b3 := b3.ext x6
    have b4 := b4.ext x6
    have b5 := b5.ext x6
    go_wp2_with fail
    have hin := hin.ext (ext_alloc w6 (.cells #[.int .i64 t3, .int .i64 t4] 31))
    have hb1 := hb1.ext (ext_alloc w6 (.cells #[.int .i64 t3, .int .i64 t4] 31))
    have ol := ol.ext (ext_alloc w6 (.cells #[.int .i64 t3, .int .i64 t4] 31))
    have E6 := ext_trans E6 (ext_alloc w6 (.cells #[.int .i64 t3, .int .i64 t4] 31))
    have b2 := b2.alloc (.cells #[.int .i64 t3, .int .i64 t4] 31)
    have b3 := b3.alloc (.cells #[.int .i64 t3, .int .i64 t4] 31)
    have b4 := b4.alloc (.cells #[.int .i64 t3, .int .i64 t4] 31)
    have b5 := b5.alloc (.cells #[.int .i64 t3, .int .i64 t4] 31)
    have b6 := Blk.new w6 31 #[.int .i64 t3, .int .i64 t4]
    have o6 := o6.ext (ext_alloc w6 (.cells #[.int .i64 t3, .int .i64 t4] 31))
    refine (C6.out _ _ _ hb1).mono ?_; rintro e w7 ⟨A7, c7, rfl, o7, x7⟩
    have hin := hin.ext x7
    have hb1 := hb1.ext x7
    have ol := ol.ext x7
    have E7 := ext_trans E6 x7
    have b2 := b2.ext x7
    have b3 := b3.ext x7
    have b4 := b4.ext x7
    have b5 := b5.ext x7
    have b6 := b6.ext x7
    have o6 := o6.ext x7
    obtain ⟨f2a, f2b, f2c⟩ := b2.two
    have z2 := b2.lt
    obtain ⟨f3a, f3b, f3c⟩ := b3.two
    have z3 := b3.lt
    obtain ⟨f4a, f4b, f4c⟩ := b4.two
    have z4 := b4.lt
    obtain ⟨f5a, f5b, f5c⟩ := b5.two
    have z5 := b5.lt
    obtain ⟨f6a, f6b, f6c⟩ := b6.two
    have z6 := b6.lt
    go_wp2_with fail
    have o6 := o6.ext (ext_alloc w7 (.cells #[.int .i64 t3, .int .i64 t4] 31))
    have o7 := o7.ext (ext_alloc w7 (.cells #[.int .i64 t3, .int .i64 t4] 31))
    have ol := ol.ext (ext_alloc w7 (.cells #[.int .i64 t3, .int .i64 t4] 31))
    have hb1 := hb1.ext (ext_alloc w7 (.cells #[.int .i64 t3, .int .i64 t4] 31))
    have E7 := ext_trans E7 (ext_alloc w7 (.cells #[.int .i64 t3, .int .i64 t4] 31))
    clear f2a f2b f2c f3a f3b f3c f4a f4b f4c f5a f5b f5c
    refine (same_yes o6.rd o7.rd rfl).mono ?_; rintro e wz ⟨rfl, rfl⟩
    go_wp2_with fail
    clear f6a f6b f6c z2 z3 z4 z5 z6 b2 b3 b4 b5 b6
    refine (over_bytes o6).mono ?_; rintro e w8 ⟨rfl, g8, _⟩
    have ol := ol.grown g8 (ne_over ol0 o60)
    have hb1 := hb1.grown g8 (rd_over hb0 o60)
    have E8 : Below w.heap.size w w8 := Below.grown E7 g8 E7.size fun b h => by have := (o60.lt b h).1; have := E5.size; omega
    go_wp2_with fail
    refine (kept_bytes ol hb1 hl).mono ?_; rintro e w9 ⟨rfl, x9⟩
    go_wp2_with fail
    refine (awake_yes _).mono ?_; rintro e w10 ⟨rfl, x10⟩
    go_wp2_with fail
    go_ret
    exact ⟨rfl, Below.trans E8 ((ext_trans x9 x10).mono E8.size)⟩

end Go.Proofs.Ytcbfpillplhgnaa

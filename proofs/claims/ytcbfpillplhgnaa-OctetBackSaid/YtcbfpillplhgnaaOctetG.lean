/- The contracts of the Get's, and of the examples that keep a statement awake. -/
import Derived.Test.YtcbfpillplhgnaaOctetC
import Derived.Test.YtcbfpillplhgnaaOctetF
namespace Go.Proofs.Ytcbfpillplhgnaa
open Go.BK Go.RowKit
set_option linter.unusedVariables false

set_option maxHeartbeats 1000000 in
theorem octet_Get16 {A : Option Addr} {c : Nat} {l : List UInt8} {w : World} (a : Int) (h : Rd w A c l) (hl : l.length ≤ 140737488355328) (ha : -9223372036854775808 ≤ a ∧ a ≤ 9223372036854775807) :
    Calls Try.prog 15 #[.slice A l.length c, .int .i64 a] w fun e w' =>
      e = .returned (.tuple #[.int .i64 (getS l a 2).1, .int .i64 (getS l a 2).2.1, .agg #[.int .i64 (getS l a 2).2.2.1, .int .i64 (getS l a 2).2.2.2]]) ∧ Ext w w' := by
  have hcall := get_any a 2 (h.ext (ext_alloc w (.cells #[.int .i64 0, .int .i64 0] 31))) hl (by decide) ha
  generalize getS l a 2 = r at *
  have H := hid hcall
  clear hcall h
  go_enter Try.func15, Try.ntmps15
  go_wp2_with (go_at_call 28; refine H.out.mono ?_; rintro e w1 ⟨rfl, hext⟩; have hb1 : Below w.heap.size w w1 := Below.trans (ext_alloc w (.cells #[.int .i64 0, .int .i64 0] 31)) (hext.mono (by simp)); obtain ⟨hq1, hq2, hq3⟩ := (Blk.ext (Blk.new w 31 #[.int .i64 0, .int .i64 0]) hext).two; have hz : w.heap.size < w1.heap.size := by have := hext.size; simp at this; omega)
  refine bodyPost_ret (by simp [results, Try.results15, go_sem, hq1, hq2]; rfl) rfl ?_
  exact ⟨rfl, by go_grown⟩

set_option maxHeartbeats 1000000 in
theorem octet_Get32 {A : Option Addr} {c : Nat} {l : List UInt8} {w : World} (a : Int) (h : Rd w A c l) (hl : l.length ≤ 140737488355328) (ha : -9223372036854775808 ≤ a ∧ a ≤ 9223372036854775807) :
    Calls Try.prog 17 #[.slice A l.length c, .int .i64 a] w fun e w' =>
      e = .returned (.tuple #[.int .i64 (getS l a 4).1, .int .i64 (getS l a 4).2.1, .agg #[.int .i64 (getS l a 4).2.2.1, .int .i64 (getS l a 4).2.2.2]]) ∧ Ext w w' := by
  have hcall := get_any a 4 (h.ext (ext_alloc w (.cells #[.int .i64 0, .int .i64 0] 31))) hl (by decide) ha
  generalize getS l a 4 = r at *
  have H := hid hcall
  clear hcall h
  go_enter Try.func17, Try.ntmps17
  go_wp2_with (go_at_call 28; refine H.out.mono ?_; rintro e w1 ⟨rfl, hext⟩; have hb1 : Below w.heap.size w w1 := Below.trans (ext_alloc w (.cells #[.int .i64 0, .int .i64 0] 31)) (hext.mono (by simp)); obtain ⟨hq1, hq2, hq3⟩ := (Blk.ext (Blk.new w 31 #[.int .i64 0, .int .i64 0]) hext).two; have hz : w.heap.size < w1.heap.size := by have := hext.size; simp at this; omega)
  refine bodyPost_ret (by simp [results, Try.results17, go_sem, hq1, hq2]; rfl) rfl ?_
  exact ⟨rfl, by go_grown⟩

set_option maxHeartbeats 1000000 in
theorem ref_Get16 {A : Option Addr} {c : Nat} {l : List UInt8} {w : World} (a : Int) (h : Rd w A c l) (hl : l.length ≤ 140737488355328) (ha : -9223372036854775808 ≤ a ∧ a ≤ 9223372036854775807) :
    Calls Try.prog 21 #[.slice A l.length c, .int .i64 a] w fun e w' =>
      e = .returned (.tuple #[.int .i64 (getS l a 2).1, .int .i64 (getS l a 2).2.1, .agg #[.int .i64 (getS l a 2).2.2.1, .int .i64 (getS l a 2).2.2.2]]) ∧ Ext w w' := by
  have hcall := refget_any a 2 (h.ext (ext_alloc w (.cells #[.int .i64 0, .int .i64 0] 31))) hl (by decide) ha
  generalize getS l a 2 = r at *
  have H := hid hcall
  clear hcall h
  go_enter Try.func21, Try.ntmps21
  go_wp2_with (go_at_call 29; refine H.out.mono ?_; rintro e w1 ⟨rfl, hext⟩; have hb1 : Below w.heap.size w w1 := Below.trans (ext_alloc w (.cells #[.int .i64 0, .int .i64 0] 31)) (hext.mono (by simp)); obtain ⟨hq1, hq2, hq3⟩ := (Blk.ext (Blk.new w 31 #[.int .i64 0, .int .i64 0]) hext).two; have hz : w.heap.size < w1.heap.size := by have := hext.size; simp at this; omega)
  refine bodyPost_ret (by simp [results, Try.results21, go_sem, hq1, hq2]; rfl) rfl ?_
  exact ⟨rfl, by go_grown⟩

set_option maxHeartbeats 1000000 in
theorem ref_Get32 {A : Option Addr} {c : Nat} {l : List UInt8} {w : World} (a : Int) (h : Rd w A c l) (hl : l.length ≤ 140737488355328) (ha : -9223372036854775808 ≤ a ∧ a ≤ 9223372036854775807) :
    Calls Try.prog 22 #[.slice A l.length c, .int .i64 a] w fun e w' =>
      e = .returned (.tuple #[.int .i64 (getS l a 4).1, .int .i64 (getS l a 4).2.1, .agg #[.int .i64 (getS l a 4).2.2.1, .int .i64 (getS l a 4).2.2.2]]) ∧ Ext w w' := by
  have hcall := refget_any a 4 (h.ext (ext_alloc w (.cells #[.int .i64 0, .int .i64 0] 31))) hl (by decide) ha
  generalize getS l a 4 = r at *
  have H := hid hcall
  clear hcall h
  go_enter Try.func22, Try.ntmps22
  go_wp2_with (go_at_call 29; refine H.out.mono ?_; rintro e w1 ⟨rfl, hext⟩; have hb1 : Below w.heap.size w w1 := Below.trans (ext_alloc w (.cells #[.int .i64 0, .int .i64 0] 31)) (hext.mono (by simp)); obtain ⟨hq1, hq2, hq3⟩ := (Blk.ext (Blk.new w 31 #[.int .i64 0, .int .i64 0]) hext).two; have hz : w.heap.size < w1.heap.size := by have := hext.size; simp at this; omega)
  refine bodyPost_ret (by simp [results, Try.results22, go_sem, hq1, hq2]; rfl) rfl ?_
  exact ⟨rfl, by go_grown⟩


set_option maxHeartbeats 2000000 in
theorem awake_yes (w : World) : Calls Try.prog 14 #[] w fun e w' => e = .returned (.bool true) ∧ Ext w w' := by
  have h12 : ((List.length [(1 : UInt8), 2] : Nat)) = 2 := rfl
  have e1 : putS 2 258 = ([1, 2], 0) := by decide
  have e2 : getS [9, 1, 2] 1 2 = (258, 3, 0, 0) := by decide
  have h1 := fun W => octet_Put16 258 W
  rw [e1] at h1
  have H1 := hid h1
  clear h1 e1
  go_enter Try.func14, Try.ntmps14
  go_wp2_with (first | (go_at_call 8; refine (H1.out _).mono ?_; rintro e w1 ⟨A, c, rfl, hown1, hext1⟩))
  have r1 : Rd (w1.alloc (.cells #[.int .u8 9, .int .u8 1, .int .u8 2] 5)) (some ⟨w1.heap.size, 0, none⟩) 3 [9, 1, 2] := (Own.lit w1 [9, 1, 2] 5 _ rfl (by simp [maxLen])).rd
  refine (octet_Get16 (l := [9, 1, 2]) 1 r1 (by decide) (by decide)).mono ?_
  rintro e w2 ⟨rfl, hext2⟩
  rw [e2]
  go_wp2_with fail
  have r2 : Rd ((w2.alloc (.cells #[.int .i64 0, .int .i64 0] 31)).alloc (.cells #[.int .u8 1, .int .u8 2] 5)) (some ⟨w2.heap.size + 1, 0, none⟩) 2 [1, 2] := by
    exact (Own.lit_at (w2.alloc (.cells #[.int .i64 0, .int .i64 0] 31)) (w2.heap.size + 1) [1, 2] 5 _ (by simp) rfl (by simp [maxLen])).rd
  have hE : Ext w1 ((w2.alloc (.cells #[.int .i64 0, .int .i64 0] 31)).alloc (.cells #[.int .u8 1, .int .u8 2] 5)) := ext_trans (ext_trans (ext_alloc _ _) hext2) (ext_trans (ext_alloc _ _) (ext_alloc _ _))
  refine (same_bytes_n (a := [1, 2]) (b := [1, 2]) (hown1.rd.ext hE) r2 rfl rfl).mono ?_
  rintro e w3 ⟨rfl, rfl⟩
  go_wp2_with fail
  go_ret
  exact ⟨rfl, ext_trans hext1 hE⟩

end Go.Proofs.Ytcbfpillplhgnaa

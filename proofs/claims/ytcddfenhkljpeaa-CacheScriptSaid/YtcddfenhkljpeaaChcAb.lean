import Derived.Test.YtcddfenhkljpeaaChcAa
import Derived.Test.YtcddfenhkljpeaaChcT
/- Layer 23: what PutSet, PutNone and Get refuse, or do not keep. (Printed by gen_chcab.py.) -/
namespace Go.Proofs.Ytcddfenhkljpeaa
open Go.BK Go.BK.CH Go.BK.NM Go.RowKit Go.Maps
set_option linter.unusedVariables false
set_option linter.unusedSimpArgs false
section
variable {w w' : World} {g og mb : Nat} {most now : Int} {R : List Row}
set_option maxHeartbeats 4000000 in
set_option maxRecDepth 100000 in
theorem putset_bad1 (h : CacM w g og mb most now R) {s : SetS} {A : Option Addr} {c : Nat} (hA : RdG w 1 A s.data.length c (tvs s.data)) (hn : s.nm.length ≤ 2000000) (hd : ∀ d ∈ s.data, d.length ≤ 65535) {rank at_ : Int} (hb : chkS s ≠ 0) :
    Calls Try.prog 14 #[pt g, .agg #[.string (str s.nm), .int .i64 s.ty, .int .i64 s.cl, .int .i64 s.ttl, .slice A s.data.length c], .int .i64 rank, .int .i64 at_] w fun e w' => e = .returned (.tuple #[.bool false, .int .i64 2]) ∧ Ext w w' := by
  obtain ⟨sn, hsn⟩ : ∃ sn, s.data.length = sn := ⟨_, rfl⟩
  have CSC := fun W (x : Ext w W) => set_any (s := s) (hA.ext x) hn hd
  obtain ⟨q, hq⟩ : ∃ q, chkS s = q := ⟨_, rfl⟩
  rw [hsn] at CSC ⊢
  rw [hq] at CSC hb
  have xa := ext_alloc w (.cells #[.string (str s.nm), .int .i64 s.ty, .int .i64 s.cl, .int .i64 s.ttl, .slice A sn c] 30)
  have bs := Blk.new w 30 #[.string (str s.nm), .int .i64 s.ty, .int .i64 s.cl, .int .i64 s.ttl, .slice A sn c]
  obtain ⟨wa, hwa⟩ : ∃ wa, w.alloc (.cells #[.string (str s.nm), .int .i64 s.ty, .int .i64 s.cl, .int .i64 s.ttl, .slice A sn c] 30) = wa := ⟨_, rfl⟩
  obtain ⟨gs, hgs⟩ : ∃ gs, w.heap.size = gs := ⟨_, rfl⟩
  rw [hwa] at xa bs
  rw [hgs] at bs
  have HM0 := hid h
  have H1 := hid (h.ext xa)
  have XA := hid xa
  have BS := hid bs
  have HWA := hid hwa
  have HGS := hid hgs
  have CAB := hid (absent_no H1.out)
  have CSC := hid CSC
  have b1 : (q == 0) = false := by simpa using hb
  have b2 : (q != 0) = true := by simpa using hb
  clear hb
  simp only [pt]
  clear h xa bs hwa hgs hA hsn hn hd hq
  go_enter Try.func14, Try.ntmps14
  go_upto_region 1 with (fail)
  rw [HWA.out, HGS.out]
  go_wp2_with fail
  refine CAB.out.mono ?_
  rintro e _ ⟨rfl, rfl⟩
  have k0 : wa.cell? ⟨gs, 0, none⟩ = some (.string (str s.nm)) := BS.out.cell 0
  have k1 : wa.cell? ⟨gs, 1, none⟩ = some (.int .i64 s.ty) := BS.out.cell 1
  have k2 : wa.cell? ⟨gs, 2, none⟩ = some (.int .i64 s.cl) := BS.out.cell 2
  have k3 : wa.cell? ⟨gs, 3, none⟩ = some (.int .i64 s.ttl) := BS.out.cell 3
  have k4 : wa.cell? ⟨gs, 4, none⟩ = some (.slice A sn c) := BS.out.cell 4
  go_wp2_with fail
  refine (CSC.out wa XA.out).mono ?_
  rintro e w1 ⟨rfl, x1⟩
  have H2 := hid (H1.out.ext x1)
  have B2 := hid (BS.out.ext x1)
  have X1 := hid (ext_trans XA.out x1)
  have j1 : w1.cell? ⟨gs, 1, none⟩ = some (.int .i64 s.ty) := B2.out.cell 1
  have j2 : w1.cell? ⟨gs, 2, none⟩ = some (.int .i64 s.cl) := B2.out.cell 2
  clear x1 k0 k1 k2 k3 k4
  go_wp2_with fail
  go_ret2
  exact ⟨rfl, X1.out⟩
set_option maxHeartbeats 4000000 in
set_option maxRecDepth 100000 in
theorem putset_bad2 (h : CacM w g og mb most now R) {s : SetS} {A : Option Addr} {c : Nat} (hA : RdG w 1 A s.data.length c (tvs s.data)) (hn : s.nm.length ≤ 2000000) (hd : ∀ d ∈ s.data, d.length ≤ 65535) {rank at_ : Int} (hb : chkS s = 0 ∧ s.cl ≠ 1) :
    Calls Try.prog 14 #[pt g, .agg #[.string (str s.nm), .int .i64 s.ty, .int .i64 s.cl, .int .i64 s.ttl, .slice A s.data.length c], .int .i64 rank, .int .i64 at_] w fun e w' => e = .returned (.tuple #[.bool false, .int .i64 2]) ∧ Ext w w' := by
  obtain ⟨sn, hsn⟩ : ∃ sn, s.data.length = sn := ⟨_, rfl⟩
  have CSC := fun W (x : Ext w W) => set_any (s := s) (hA.ext x) hn hd
  obtain ⟨q, hq⟩ : ∃ q, chkS s = q := ⟨_, rfl⟩
  rw [hsn] at CSC ⊢
  rw [hq] at CSC hb
  have xa := ext_alloc w (.cells #[.string (str s.nm), .int .i64 s.ty, .int .i64 s.cl, .int .i64 s.ttl, .slice A sn c] 30)
  have bs := Blk.new w 30 #[.string (str s.nm), .int .i64 s.ty, .int .i64 s.cl, .int .i64 s.ttl, .slice A sn c]
  obtain ⟨wa, hwa⟩ : ∃ wa, w.alloc (.cells #[.string (str s.nm), .int .i64 s.ty, .int .i64 s.cl, .int .i64 s.ttl, .slice A sn c] 30) = wa := ⟨_, rfl⟩
  obtain ⟨gs, hgs⟩ : ∃ gs, w.heap.size = gs := ⟨_, rfl⟩
  rw [hwa] at xa bs
  rw [hgs] at bs
  have HM0 := hid h
  have H1 := hid (h.ext xa)
  have XA := hid xa
  have BS := hid bs
  have HWA := hid hwa
  have HGS := hid hgs
  have CAB := hid (absent_no H1.out)
  have CSC := hid CSC
  have b1 : (q == 0) = true := by simp [hb.1]
  have b2 : (q != 0) = false := by simp [hb.1]
  have b3 : (s.cl == 1) = false := by simpa using hb.2
  have b4 : (s.cl != 1) = true := by simpa using hb.2
  clear hb
  simp only [pt]
  clear h xa bs hwa hgs hA hsn hn hd hq
  go_enter Try.func14, Try.ntmps14
  go_upto_region 1 with (fail)
  rw [HWA.out, HGS.out]
  go_wp2_with fail
  refine CAB.out.mono ?_
  rintro e _ ⟨rfl, rfl⟩
  have k0 : wa.cell? ⟨gs, 0, none⟩ = some (.string (str s.nm)) := BS.out.cell 0
  have k1 : wa.cell? ⟨gs, 1, none⟩ = some (.int .i64 s.ty) := BS.out.cell 1
  have k2 : wa.cell? ⟨gs, 2, none⟩ = some (.int .i64 s.cl) := BS.out.cell 2
  have k3 : wa.cell? ⟨gs, 3, none⟩ = some (.int .i64 s.ttl) := BS.out.cell 3
  have k4 : wa.cell? ⟨gs, 4, none⟩ = some (.slice A sn c) := BS.out.cell 4
  go_wp2_with fail
  refine (CSC.out wa XA.out).mono ?_
  rintro e w1 ⟨rfl, x1⟩
  have H2 := hid (H1.out.ext x1)
  have B2 := hid (BS.out.ext x1)
  have X1 := hid (ext_trans XA.out x1)
  have j1 : w1.cell? ⟨gs, 1, none⟩ = some (.int .i64 s.ty) := B2.out.cell 1
  have j2 : w1.cell? ⟨gs, 2, none⟩ = some (.int .i64 s.cl) := B2.out.cell 2
  clear x1 k0 k1 k2 k3 k4
  go_wp2_with fail
  go_ret2
  exact ⟨rfl, X1.out⟩
set_option maxHeartbeats 4000000 in
set_option maxRecDepth 100000 in
theorem putset_bad3 (h : CacM w g og mb most now R) {s : SetS} {A : Option Addr} {c : Nat} (hA : RdG w 1 A s.data.length c (tvs s.data)) (hn : s.nm.length ≤ 2000000) (hd : ∀ d ∈ s.data, d.length ≤ 65535) {rank at_ : Int} (hb : chkS s = 0 ∧ s.cl = 1 ∧ s.ty = 0) :
    Calls Try.prog 14 #[pt g, .agg #[.string (str s.nm), .int .i64 s.ty, .int .i64 s.cl, .int .i64 s.ttl, .slice A s.data.length c], .int .i64 rank, .int .i64 at_] w fun e w' => e = .returned (.tuple #[.bool false, .int .i64 2]) ∧ Ext w w' := by
  obtain ⟨sn, hsn⟩ : ∃ sn, s.data.length = sn := ⟨_, rfl⟩
  have CSC := fun W (x : Ext w W) => set_any (s := s) (hA.ext x) hn hd
  obtain ⟨q, hq⟩ : ∃ q, chkS s = q := ⟨_, rfl⟩
  rw [hsn] at CSC ⊢
  rw [hq] at CSC hb
  have xa := ext_alloc w (.cells #[.string (str s.nm), .int .i64 s.ty, .int .i64 s.cl, .int .i64 s.ttl, .slice A sn c] 30)
  have bs := Blk.new w 30 #[.string (str s.nm), .int .i64 s.ty, .int .i64 s.cl, .int .i64 s.ttl, .slice A sn c]
  obtain ⟨wa, hwa⟩ : ∃ wa, w.alloc (.cells #[.string (str s.nm), .int .i64 s.ty, .int .i64 s.cl, .int .i64 s.ttl, .slice A sn c] 30) = wa := ⟨_, rfl⟩
  obtain ⟨gs, hgs⟩ : ∃ gs, w.heap.size = gs := ⟨_, rfl⟩
  rw [hwa] at xa bs
  rw [hgs] at bs
  have HM0 := hid h
  have H1 := hid (h.ext xa)
  have XA := hid xa
  have BS := hid bs
  have HWA := hid hwa
  have HGS := hid hgs
  have CAB := hid (absent_no H1.out)
  have CSC := hid CSC
  have b1 : (q == 0) = true := by simp [hb.1]
  have b2 : (q != 0) = false := by simp [hb.1]
  have b3 : (s.cl == 1) = true := by simp [hb.2.1]
  have b4 : (s.cl != 1) = false := by simp [hb.2.1]
  have b5 : (s.ty == 0) = true := by simpa using hb.2.2
  clear hb
  simp only [pt]
  clear h xa bs hwa hgs hA hsn hn hd hq
  go_enter Try.func14, Try.ntmps14
  go_upto_region 1 with (fail)
  rw [HWA.out, HGS.out]
  go_wp2_with fail
  refine CAB.out.mono ?_
  rintro e _ ⟨rfl, rfl⟩
  have k0 : wa.cell? ⟨gs, 0, none⟩ = some (.string (str s.nm)) := BS.out.cell 0
  have k1 : wa.cell? ⟨gs, 1, none⟩ = some (.int .i64 s.ty) := BS.out.cell 1
  have k2 : wa.cell? ⟨gs, 2, none⟩ = some (.int .i64 s.cl) := BS.out.cell 2
  have k3 : wa.cell? ⟨gs, 3, none⟩ = some (.int .i64 s.ttl) := BS.out.cell 3
  have k4 : wa.cell? ⟨gs, 4, none⟩ = some (.slice A sn c) := BS.out.cell 4
  go_wp2_with fail
  refine (CSC.out wa XA.out).mono ?_
  rintro e w1 ⟨rfl, x1⟩
  have H2 := hid (H1.out.ext x1)
  have B2 := hid (BS.out.ext x1)
  have X1 := hid (ext_trans XA.out x1)
  have j1 : w1.cell? ⟨gs, 1, none⟩ = some (.int .i64 s.ty) := B2.out.cell 1
  have j2 : w1.cell? ⟨gs, 2, none⟩ = some (.int .i64 s.cl) := B2.out.cell 2
  clear x1 k0 k1 k2 k3 k4
  go_wp2_with fail
  go_ret2
  exact ⟨rfl, X1.out⟩
set_option maxHeartbeats 4000000 in
set_option maxRecDepth 100000 in
theorem putset_bad4 (h : CacM w g og mb most now R) {s : SetS} {A : Option Addr} {c : Nat} (hA : RdG w 1 A s.data.length c (tvs s.data)) (hn : s.nm.length ≤ 2000000) (hd : ∀ d ∈ s.data, d.length ≤ 65535) {rank at_ : Int} (hb : chkS s = 0 ∧ s.cl = 1 ∧ s.ty ≠ 0 ∧ rank < 1) :
    Calls Try.prog 14 #[pt g, .agg #[.string (str s.nm), .int .i64 s.ty, .int .i64 s.cl, .int .i64 s.ttl, .slice A s.data.length c], .int .i64 rank, .int .i64 at_] w fun e w' => e = .returned (.tuple #[.bool false, .int .i64 2]) ∧ Ext w w' := by
  obtain ⟨sn, hsn⟩ : ∃ sn, s.data.length = sn := ⟨_, rfl⟩
  have CSC := fun W (x : Ext w W) => set_any (s := s) (hA.ext x) hn hd
  obtain ⟨q, hq⟩ : ∃ q, chkS s = q := ⟨_, rfl⟩
  rw [hsn] at CSC ⊢
  rw [hq] at CSC hb
  have xa := ext_alloc w (.cells #[.string (str s.nm), .int .i64 s.ty, .int .i64 s.cl, .int .i64 s.ttl, .slice A sn c] 30)
  have bs := Blk.new w 30 #[.string (str s.nm), .int .i64 s.ty, .int .i64 s.cl, .int .i64 s.ttl, .slice A sn c]
  obtain ⟨wa, hwa⟩ : ∃ wa, w.alloc (.cells #[.string (str s.nm), .int .i64 s.ty, .int .i64 s.cl, .int .i64 s.ttl, .slice A sn c] 30) = wa := ⟨_, rfl⟩
  obtain ⟨gs, hgs⟩ : ∃ gs, w.heap.size = gs := ⟨_, rfl⟩
  rw [hwa] at xa bs
  rw [hgs] at bs
  have HM0 := hid h
  have H1 := hid (h.ext xa)
  have XA := hid xa
  have BS := hid bs
  have HWA := hid hwa
  have HGS := hid hgs
  have CAB := hid (absent_no H1.out)
  have CSC := hid CSC
  have b1 : (q == 0) = true := by simp [hb.1]
  have b2 : (q != 0) = false := by simp [hb.1]
  have b3 : (s.cl == 1) = true := by simp [hb.2.1]
  have b4 : (s.cl != 1) = false := by simp [hb.2.1]
  have b5 : (s.ty == 0) = false := by simpa using hb.2.2.1
  have b6 : decide (rank < 1) = true := by simpa using hb.2.2.2
  clear hb
  simp only [pt]
  clear h xa bs hwa hgs hA hsn hn hd hq
  go_enter Try.func14, Try.ntmps14
  go_upto_region 1 with (fail)
  rw [HWA.out, HGS.out]
  go_wp2_with fail
  refine CAB.out.mono ?_
  rintro e _ ⟨rfl, rfl⟩
  have k0 : wa.cell? ⟨gs, 0, none⟩ = some (.string (str s.nm)) := BS.out.cell 0
  have k1 : wa.cell? ⟨gs, 1, none⟩ = some (.int .i64 s.ty) := BS.out.cell 1
  have k2 : wa.cell? ⟨gs, 2, none⟩ = some (.int .i64 s.cl) := BS.out.cell 2
  have k3 : wa.cell? ⟨gs, 3, none⟩ = some (.int .i64 s.ttl) := BS.out.cell 3
  have k4 : wa.cell? ⟨gs, 4, none⟩ = some (.slice A sn c) := BS.out.cell 4
  go_wp2_with fail
  refine (CSC.out wa XA.out).mono ?_
  rintro e w1 ⟨rfl, x1⟩
  have H2 := hid (H1.out.ext x1)
  have B2 := hid (BS.out.ext x1)
  have X1 := hid (ext_trans XA.out x1)
  have j1 : w1.cell? ⟨gs, 1, none⟩ = some (.int .i64 s.ty) := B2.out.cell 1
  have j2 : w1.cell? ⟨gs, 2, none⟩ = some (.int .i64 s.cl) := B2.out.cell 2
  clear x1 k0 k1 k2 k3 k4
  go_wp2_with fail
  go_ret2
  exact ⟨rfl, X1.out⟩
set_option maxHeartbeats 4000000 in
set_option maxRecDepth 100000 in
theorem putset_bad5 (h : CacM w g og mb most now R) {s : SetS} {A : Option Addr} {c : Nat} (hA : RdG w 1 A s.data.length c (tvs s.data)) (hn : s.nm.length ≤ 2000000) (hd : ∀ d ∈ s.data, d.length ≤ 65535) {rank at_ : Int} (hb : chkS s = 0 ∧ s.cl = 1 ∧ s.ty ≠ 0 ∧ ¬ rank < 1 ∧ 3 < rank) :
    Calls Try.prog 14 #[pt g, .agg #[.string (str s.nm), .int .i64 s.ty, .int .i64 s.cl, .int .i64 s.ttl, .slice A s.data.length c], .int .i64 rank, .int .i64 at_] w fun e w' => e = .returned (.tuple #[.bool false, .int .i64 2]) ∧ Ext w w' := by
  obtain ⟨sn, hsn⟩ : ∃ sn, s.data.length = sn := ⟨_, rfl⟩
  have CSC := fun W (x : Ext w W) => set_any (s := s) (hA.ext x) hn hd
  obtain ⟨q, hq⟩ : ∃ q, chkS s = q := ⟨_, rfl⟩
  rw [hsn] at CSC ⊢
  rw [hq] at CSC hb
  have xa := ext_alloc w (.cells #[.string (str s.nm), .int .i64 s.ty, .int .i64 s.cl, .int .i64 s.ttl, .slice A sn c] 30)
  have bs := Blk.new w 30 #[.string (str s.nm), .int .i64 s.ty, .int .i64 s.cl, .int .i64 s.ttl, .slice A sn c]
  obtain ⟨wa, hwa⟩ : ∃ wa, w.alloc (.cells #[.string (str s.nm), .int .i64 s.ty, .int .i64 s.cl, .int .i64 s.ttl, .slice A sn c] 30) = wa := ⟨_, rfl⟩
  obtain ⟨gs, hgs⟩ : ∃ gs, w.heap.size = gs := ⟨_, rfl⟩
  rw [hwa] at xa bs
  rw [hgs] at bs
  have HM0 := hid h
  have H1 := hid (h.ext xa)
  have XA := hid xa
  have BS := hid bs
  have HWA := hid hwa
  have HGS := hid hgs
  have CAB := hid (absent_no H1.out)
  have CSC := hid CSC
  have b1 : (q == 0) = true := by simp [hb.1]
  have b2 : (q != 0) = false := by simp [hb.1]
  have b3 : (s.cl == 1) = true := by simp [hb.2.1]
  have b4 : (s.cl != 1) = false := by simp [hb.2.1]
  have b5 : (s.ty == 0) = false := by simpa using hb.2.2.1
  have b6 : decide (rank < 1) = false := by have := hb.2.2.2.1; simp; omega
  have b7 : decide (3 < rank) = true := by simpa using hb.2.2.2.2
  clear hb
  simp only [pt]
  clear h xa bs hwa hgs hA hsn hn hd hq
  go_enter Try.func14, Try.ntmps14
  go_upto_region 1 with (fail)
  rw [HWA.out, HGS.out]
  go_wp2_with fail
  refine CAB.out.mono ?_
  rintro e _ ⟨rfl, rfl⟩
  have k0 : wa.cell? ⟨gs, 0, none⟩ = some (.string (str s.nm)) := BS.out.cell 0
  have k1 : wa.cell? ⟨gs, 1, none⟩ = some (.int .i64 s.ty) := BS.out.cell 1
  have k2 : wa.cell? ⟨gs, 2, none⟩ = some (.int .i64 s.cl) := BS.out.cell 2
  have k3 : wa.cell? ⟨gs, 3, none⟩ = some (.int .i64 s.ttl) := BS.out.cell 3
  have k4 : wa.cell? ⟨gs, 4, none⟩ = some (.slice A sn c) := BS.out.cell 4
  go_wp2_with fail
  refine (CSC.out wa XA.out).mono ?_
  rintro e w1 ⟨rfl, x1⟩
  have H2 := hid (H1.out.ext x1)
  have B2 := hid (BS.out.ext x1)
  have X1 := hid (ext_trans XA.out x1)
  have j1 : w1.cell? ⟨gs, 1, none⟩ = some (.int .i64 s.ty) := B2.out.cell 1
  have j2 : w1.cell? ⟨gs, 2, none⟩ = some (.int .i64 s.cl) := B2.out.cell 2
  clear x1 k0 k1 k2 k3 k4
  go_wp2_with fail
  go_ret2
  exact ⟨rfl, X1.out⟩
set_option maxHeartbeats 4000000 in
set_option maxRecDepth 100000 in
theorem putset_bad6 (h : CacM w g og mb most now R) {s : SetS} {A : Option Addr} {c : Nat} (hA : RdG w 1 A s.data.length c (tvs s.data)) (hn : s.nm.length ≤ 2000000) (hd : ∀ d ∈ s.data, d.length ≤ 65535) {rank at_ : Int} (hb : chkS s = 0 ∧ s.cl = 1 ∧ s.ty ≠ 0 ∧ ¬ rank < 1 ∧ ¬ 3 < rank ∧ ¬ inTime at_) :
    Calls Try.prog 14 #[pt g, .agg #[.string (str s.nm), .int .i64 s.ty, .int .i64 s.cl, .int .i64 s.ttl, .slice A s.data.length c], .int .i64 rank, .int .i64 at_] w fun e w' => e = .returned (.tuple #[.bool false, .int .i64 2]) ∧ Ext w w' := by
  obtain ⟨sn, hsn⟩ : ∃ sn, s.data.length = sn := ⟨_, rfl⟩
  have CSC := fun W (x : Ext w W) => set_any (s := s) (hA.ext x) hn hd
  obtain ⟨q, hq⟩ : ∃ q, chkS s = q := ⟨_, rfl⟩
  rw [hsn] at CSC ⊢
  rw [hq] at CSC hb
  have xa := ext_alloc w (.cells #[.string (str s.nm), .int .i64 s.ty, .int .i64 s.cl, .int .i64 s.ttl, .slice A sn c] 30)
  have bs := Blk.new w 30 #[.string (str s.nm), .int .i64 s.ty, .int .i64 s.cl, .int .i64 s.ttl, .slice A sn c]
  obtain ⟨wa, hwa⟩ : ∃ wa, w.alloc (.cells #[.string (str s.nm), .int .i64 s.ty, .int .i64 s.cl, .int .i64 s.ttl, .slice A sn c] 30) = wa := ⟨_, rfl⟩
  obtain ⟨gs, hgs⟩ : ∃ gs, w.heap.size = gs := ⟨_, rfl⟩
  rw [hwa] at xa bs
  rw [hgs] at bs
  have HM0 := hid h
  have H1 := hid (h.ext xa)
  have XA := hid xa
  have BS := hid bs
  have HWA := hid hwa
  have HGS := hid hgs
  have CAB := hid (absent_no H1.out)
  have CSC := hid CSC
  have b1 : (q == 0) = true := by simp [hb.1]
  have b2 : (q != 0) = false := by simp [hb.1]
  have b3 : (s.cl == 1) = true := by simp [hb.2.1]
  have b4 : (s.cl != 1) = false := by simp [hb.2.1]
  have b5 : (s.ty == 0) = false := by simpa using hb.2.2.1
  have b6 : decide (rank < 1) = false := by have := hb.2.2.2.1; simp; omega
  have b7 : decide (3 < rank) = false := by have := hb.2.2.2.2.1; simp; omega
  have CWI := fun W => within_in at_ W
  rw [decide_eq_false hb.2.2.2.2.2] at CWI
  have CWI := hid CWI
  clear hb
  simp only [pt]
  clear h xa bs hwa hgs hA hsn hn hd hq
  go_enter Try.func14, Try.ntmps14
  go_upto_region 1 with (fail)
  rw [HWA.out, HGS.out]
  go_wp2_with fail
  refine CAB.out.mono ?_
  rintro e _ ⟨rfl, rfl⟩
  have k0 : wa.cell? ⟨gs, 0, none⟩ = some (.string (str s.nm)) := BS.out.cell 0
  have k1 : wa.cell? ⟨gs, 1, none⟩ = some (.int .i64 s.ty) := BS.out.cell 1
  have k2 : wa.cell? ⟨gs, 2, none⟩ = some (.int .i64 s.cl) := BS.out.cell 2
  have k3 : wa.cell? ⟨gs, 3, none⟩ = some (.int .i64 s.ttl) := BS.out.cell 3
  have k4 : wa.cell? ⟨gs, 4, none⟩ = some (.slice A sn c) := BS.out.cell 4
  go_wp2_with fail
  refine (CSC.out wa XA.out).mono ?_
  rintro e w1 ⟨rfl, x1⟩
  have H2 := hid (H1.out.ext x1)
  have B2 := hid (BS.out.ext x1)
  have X1 := hid (ext_trans XA.out x1)
  have j1 : w1.cell? ⟨gs, 1, none⟩ = some (.int .i64 s.ty) := B2.out.cell 1
  have j2 : w1.cell? ⟨gs, 2, none⟩ = some (.int .i64 s.cl) := B2.out.cell 2
  clear x1 k0 k1 k2 k3 k4
  go_wp2_with fail
  refine (CWI.out _).mono ?_
  rintro e _ ⟨rfl, rfl⟩
  go_wp2_with fail
  go_ret2
  exact ⟨rfl, X1.out⟩
set_option maxHeartbeats 4000000 in
set_option maxRecDepth 100000 in
theorem putset_zero (h : CacM w g og mb most now R) {s : SetS} {A : Option Addr} {c : Nat} (hA : RdG w 1 A s.data.length c (tvs s.data)) (hn : s.nm.length ≤ 2000000) (hd : ∀ d ∈ s.data, d.length ≤ 65535) {rank at_ : Int} (hb : chkS s = 0 ∧ s.cl = 1 ∧ s.ty ≠ 0 ∧ ¬ rank < 1 ∧ ¬ 3 < rank ∧ s.ttl = 0) (hat : inTime at_) :
    Calls Try.prog 14 #[pt g, .agg #[.string (str s.nm), .int .i64 s.ty, .int .i64 s.cl, .int .i64 s.ttl, .slice A s.data.length c], .int .i64 rank, .int .i64 at_] w fun e w' => e = .returned (.tuple #[.bool false, .int .i64 0]) ∧ CacM w' g og mb most (tmax now at_) R ∧ Shy (wrC g og mb R) w w' := by
  have CWI := fun W => within_in at_ W
  rw [decide_eq_true hat] at CWI
  have CWI := hid CWI
  obtain ⟨tm, htm⟩ : ∃ tm, (if now < at_ then at_ else now) = tm := ⟨_, rfl⟩
  have htm2 : tmax now at_ = tm := by unfold tmax; exact htm
  rw [htm2]
  obtain ⟨sn, hsn⟩ : ∃ sn, s.data.length = sn := ⟨_, rfl⟩
  have CSC := fun W (x : Ext w W) => set_any (s := s) (hA.ext x) hn hd
  obtain ⟨q, hq⟩ : ∃ q, chkS s = q := ⟨_, rfl⟩
  rw [hsn] at CSC ⊢
  rw [hq] at CSC hb
  have xa := ext_alloc w (.cells #[.string (str s.nm), .int .i64 s.ty, .int .i64 s.cl, .int .i64 s.ttl, .slice A sn c] 30)
  have bs := Blk.new w 30 #[.string (str s.nm), .int .i64 s.ty, .int .i64 s.cl, .int .i64 s.ttl, .slice A sn c]
  obtain ⟨wa, hwa⟩ : ∃ wa, w.alloc (.cells #[.string (str s.nm), .int .i64 s.ty, .int .i64 s.cl, .int .i64 s.ttl, .slice A sn c] 30) = wa := ⟨_, rfl⟩
  obtain ⟨gs, hgs⟩ : ∃ gs, w.heap.size = gs := ⟨_, rfl⟩
  rw [hwa] at xa bs
  rw [hgs] at bs
  have HM0 := hid h
  have H1 := hid (h.ext xa)
  have XA := hid xa
  have BS := hid bs
  have HWA := hid hwa
  have HGS := hid hgs
  have CAB := hid (absent_no H1.out)
  have CSC := hid CSC
  have b1 : (q == 0) = true := by simp [hb.1]
  have b2 : (q != 0) = false := by simp [hb.1]
  have b3 : (s.cl == 1) = true := by simp [hb.2.1]
  have b4 : (s.cl != 1) = false := by simp [hb.2.1]
  have b5 : (s.ty == 0) = false := by simpa using hb.2.2.1
  have b6 : decide (rank < 1) = false := by have := hb.2.2.2.1; simp; omega
  have b7 : decide (3 < rank) = false := by have := hb.2.2.2.2.1; simp; omega
  have b8 : (s.ttl == 0) = true := by simpa using hb.2.2.2.2.2
  clear hb htm2
  simp only [pt]
  clear h xa bs hwa hgs hA hsn hn hd hq
  go_enter Try.func14, Try.ntmps14
  go_upto_region 1 with (fail)
  rw [HWA.out, HGS.out]
  go_wp2_with fail
  refine CAB.out.mono ?_
  rintro e _ ⟨rfl, rfl⟩
  have k0 : wa.cell? ⟨gs, 0, none⟩ = some (.string (str s.nm)) := BS.out.cell 0
  have k1 : wa.cell? ⟨gs, 1, none⟩ = some (.int .i64 s.ty) := BS.out.cell 1
  have k2 : wa.cell? ⟨gs, 2, none⟩ = some (.int .i64 s.cl) := BS.out.cell 2
  have k3 : wa.cell? ⟨gs, 3, none⟩ = some (.int .i64 s.ttl) := BS.out.cell 3
  have k4 : wa.cell? ⟨gs, 4, none⟩ = some (.slice A sn c) := BS.out.cell 4
  go_wp2_with fail
  refine (CSC.out wa XA.out).mono ?_
  rintro e w1 ⟨rfl, x1⟩
  have H2 := hid (H1.out.ext x1)
  have B2 := hid (BS.out.ext x1)
  have X1 := hid (ext_trans XA.out x1)
  have j1 : w1.cell? ⟨gs, 1, none⟩ = some (.int .i64 s.ty) := B2.out.cell 1
  have j2 : w1.cell? ⟨gs, 2, none⟩ = some (.int .i64 s.cl) := B2.out.cell 2
  clear x1 k0 k1 k2 k3 k4
  go_wp2_with fail
  refine (CWI.out _).mono ?_
  rintro e _ ⟨rfl, rfl⟩
  have c1 : w1.cell? ⟨g, 1, none⟩ = some (.int .i64 now) := H2.out.1.cell 1
  have cf := H2.out.1.frozen
  have h3 := H2.out.time tm
  have s3 := set_shy g 1 (.int .i64 tm) w1
  have b3' := B2.out.shy s3 (fun e => by have h1 := HM0.out.1.lt; have h2 := HGS.out; omega)
  obtain ⟨w2, hw2⟩ : ∃ w2, w1.setCell ⟨g, 1, none⟩ (.int .i64 tm) = w2 := ⟨_, rfl⟩
  rw [hw2] at h3 s3 b3'
  have HW2 := hid hw2
  have H3 := hid h3
  have S3 : Hid (Shy (wrC g og mb R) w w2) := hid ((Shy.of_ext X1.out).trans s3 (fun k _ e => .inl e))
  have j3 : w2.cell? ⟨gs, 3, none⟩ = some (.int .i64 s.ttl) := b3'.cell 3
  clear h3 s3 b3' hw2
  go_upto_region 6 with (fail)
  rw [HW2.out]
  clear c1 cf htm
  go_wp2_with fail
  go_ret2
  exact ⟨rfl, H3.out, S3.out⟩
set_option maxHeartbeats 4000000 in
set_option maxRecDepth 100000 in
theorem putnone_bad1 (h : CacM w g og mb most now R) {n : List UInt8} {kind ttl at_ : Int} (hn : n.length ≤ 2000000) (hb : checkS n ≠ 0) :
    Calls Try.prog 17 #[pt g, .string (str n), .int .i64 kind, .int .i64 ttl, .int .i64 at_] w fun e w' => e = .returned (.tuple #[.bool false, .int .i64 2]) ∧ Ext w w' := by
  have HM0 := hid h
  have CAB := hid (absent_no h)
  have CCH := check_in n w hn
  obtain ⟨q, hq⟩ : ∃ q, checkS n = q := ⟨_, rfl⟩
  rw [hq] at CCH hb
  have CCH := hid CCH
  have b1 : (q == 0) = false := by simpa using hb
  have b2 : (q != 0) = true := by simpa using hb
  clear hb
  simp only [pt]
  clear h hq hn
  go_enter Try.func17, Try.ntmps17
  go_wp2_with fail
  refine CAB.out.mono ?_
  rintro e _ ⟨rfl, rfl⟩
  go_wp2_with fail
  refine CCH.out.mono ?_
  rintro e w1 ⟨rfl, x1⟩
  have H2 := hid (HM0.out.ext x1)
  have X1 := hid x1
  clear x1
  go_wp2_with fail
  go_ret2
  exact ⟨rfl, X1.out⟩
set_option maxHeartbeats 4000000 in
set_option maxRecDepth 100000 in
theorem putnone_bad2 (h : CacM w g og mb most now R) {n : List UInt8} {kind ttl at_ : Int} (hn : n.length ≤ 2000000) (hb : checkS n = 0 ∧ kind < 0) :
    Calls Try.prog 17 #[pt g, .string (str n), .int .i64 kind, .int .i64 ttl, .int .i64 at_] w fun e w' => e = .returned (.tuple #[.bool false, .int .i64 2]) ∧ Ext w w' := by
  have HM0 := hid h
  have CAB := hid (absent_no h)
  have CCH := check_in n w hn
  obtain ⟨q, hq⟩ : ∃ q, checkS n = q := ⟨_, rfl⟩
  rw [hq] at CCH hb
  have CCH := hid CCH
  have b1 : (q == 0) = true := by simp [hb.1]
  have b2 : (q != 0) = false := by simp [hb.1]
  have b3 : decide (kind < 0) = true := by simpa using hb.2
  clear hb
  simp only [pt]
  clear h hq hn
  go_enter Try.func17, Try.ntmps17
  go_wp2_with fail
  refine CAB.out.mono ?_
  rintro e _ ⟨rfl, rfl⟩
  go_wp2_with fail
  refine CCH.out.mono ?_
  rintro e w1 ⟨rfl, x1⟩
  have H2 := hid (HM0.out.ext x1)
  have X1 := hid x1
  clear x1
  go_wp2_with fail
  go_ret2
  exact ⟨rfl, X1.out⟩
set_option maxHeartbeats 4000000 in
set_option maxRecDepth 100000 in
theorem putnone_bad3 (h : CacM w g og mb most now R) {n : List UInt8} {kind ttl at_ : Int} (hn : n.length ≤ 2000000) (hb : checkS n = 0 ∧ ¬ kind < 0 ∧ 65535 < kind) :
    Calls Try.prog 17 #[pt g, .string (str n), .int .i64 kind, .int .i64 ttl, .int .i64 at_] w fun e w' => e = .returned (.tuple #[.bool false, .int .i64 2]) ∧ Ext w w' := by
  have HM0 := hid h
  have CAB := hid (absent_no h)
  have CCH := check_in n w hn
  obtain ⟨q, hq⟩ : ∃ q, checkS n = q := ⟨_, rfl⟩
  rw [hq] at CCH hb
  have CCH := hid CCH
  have b1 : (q == 0) = true := by simp [hb.1]
  have b2 : (q != 0) = false := by simp [hb.1]
  have b3 : decide (kind < 0) = false := by have := hb.2.1; simp; omega
  have b4 : decide (65535 < kind) = true := by simpa using hb.2.2
  clear hb
  simp only [pt]
  clear h hq hn
  go_enter Try.func17, Try.ntmps17
  go_wp2_with fail
  refine CAB.out.mono ?_
  rintro e _ ⟨rfl, rfl⟩
  go_wp2_with fail
  refine CCH.out.mono ?_
  rintro e w1 ⟨rfl, x1⟩
  have H2 := hid (HM0.out.ext x1)
  have X1 := hid x1
  clear x1
  go_wp2_with fail
  go_ret2
  exact ⟨rfl, X1.out⟩
set_option maxHeartbeats 4000000 in
set_option maxRecDepth 100000 in
theorem putnone_bad4 (h : CacM w g og mb most now R) {n : List UInt8} {kind ttl at_ : Int} (hn : n.length ≤ 2000000) (hb : checkS n = 0 ∧ ¬ kind < 0 ∧ ¬ 65535 < kind ∧ ttl < 0) :
    Calls Try.prog 17 #[pt g, .string (str n), .int .i64 kind, .int .i64 ttl, .int .i64 at_] w fun e w' => e = .returned (.tuple #[.bool false, .int .i64 2]) ∧ Ext w w' := by
  have HM0 := hid h
  have CAB := hid (absent_no h)
  have CCH := check_in n w hn
  obtain ⟨q, hq⟩ : ∃ q, checkS n = q := ⟨_, rfl⟩
  rw [hq] at CCH hb
  have CCH := hid CCH
  have b1 : (q == 0) = true := by simp [hb.1]
  have b2 : (q != 0) = false := by simp [hb.1]
  have b3 : decide (kind < 0) = false := by have := hb.2.1; simp; omega
  have b4 : decide (65535 < kind) = false := by have := hb.2.2.1; simp; omega
  have b5 : decide (ttl < 0) = true := by simpa using hb.2.2.2
  clear hb
  simp only [pt]
  clear h hq hn
  go_enter Try.func17, Try.ntmps17
  go_wp2_with fail
  refine CAB.out.mono ?_
  rintro e _ ⟨rfl, rfl⟩
  go_wp2_with fail
  refine CCH.out.mono ?_
  rintro e w1 ⟨rfl, x1⟩
  have H2 := hid (HM0.out.ext x1)
  have X1 := hid x1
  clear x1
  go_wp2_with fail
  go_ret2
  exact ⟨rfl, X1.out⟩
set_option maxHeartbeats 4000000 in
set_option maxRecDepth 100000 in
theorem putnone_bad5 (h : CacM w g og mb most now R) {n : List UInt8} {kind ttl at_ : Int} (hn : n.length ≤ 2000000) (hb : checkS n = 0 ∧ ¬ kind < 0 ∧ ¬ 65535 < kind ∧ ¬ ttl < 0 ∧ 2147483648 ≤ ttl) :
    Calls Try.prog 17 #[pt g, .string (str n), .int .i64 kind, .int .i64 ttl, .int .i64 at_] w fun e w' => e = .returned (.tuple #[.bool false, .int .i64 2]) ∧ Ext w w' := by
  have HM0 := hid h
  have CAB := hid (absent_no h)
  have CCH := check_in n w hn
  obtain ⟨q, hq⟩ : ∃ q, checkS n = q := ⟨_, rfl⟩
  rw [hq] at CCH hb
  have CCH := hid CCH
  have b1 : (q == 0) = true := by simp [hb.1]
  have b2 : (q != 0) = false := by simp [hb.1]
  have b3 : decide (kind < 0) = false := by have := hb.2.1; simp; omega
  have b4 : decide (65535 < kind) = false := by have := hb.2.2.1; simp; omega
  have b5 : decide (ttl < 0) = false := by have := hb.2.2.2.1; simp; omega
  have b6 : decide (2147483648 ≤ ttl) = true := by simpa using hb.2.2.2.2
  clear hb
  simp only [pt]
  clear h hq hn
  go_enter Try.func17, Try.ntmps17
  go_wp2_with fail
  refine CAB.out.mono ?_
  rintro e _ ⟨rfl, rfl⟩
  go_wp2_with fail
  refine CCH.out.mono ?_
  rintro e w1 ⟨rfl, x1⟩
  have H2 := hid (HM0.out.ext x1)
  have X1 := hid x1
  clear x1
  go_wp2_with fail
  go_ret2
  exact ⟨rfl, X1.out⟩
set_option maxHeartbeats 4000000 in
set_option maxRecDepth 100000 in
theorem putnone_bad6 (h : CacM w g og mb most now R) {n : List UInt8} {kind ttl at_ : Int} (hn : n.length ≤ 2000000) (hb : checkS n = 0 ∧ ¬ kind < 0 ∧ ¬ 65535 < kind ∧ ¬ ttl < 0 ∧ ¬ 2147483648 ≤ ttl ∧ ¬ inTime at_) :
    Calls Try.prog 17 #[pt g, .string (str n), .int .i64 kind, .int .i64 ttl, .int .i64 at_] w fun e w' => e = .returned (.tuple #[.bool false, .int .i64 2]) ∧ Ext w w' := by
  have HM0 := hid h
  have CAB := hid (absent_no h)
  have CCH := check_in n w hn
  obtain ⟨q, hq⟩ : ∃ q, checkS n = q := ⟨_, rfl⟩
  rw [hq] at CCH hb
  have CCH := hid CCH
  have b1 : (q == 0) = true := by simp [hb.1]
  have b2 : (q != 0) = false := by simp [hb.1]
  have b3 : decide (kind < 0) = false := by have := hb.2.1; simp; omega
  have b4 : decide (65535 < kind) = false := by have := hb.2.2.1; simp; omega
  have b5 : decide (ttl < 0) = false := by have := hb.2.2.2.1; simp; omega
  have b6 : decide (2147483648 ≤ ttl) = false := by have := hb.2.2.2.2.1; simp; omega
  have CWI := fun W => within_in at_ W
  rw [decide_eq_false hb.2.2.2.2.2] at CWI
  have CWI := hid CWI
  clear hb
  simp only [pt]
  clear h hq hn
  go_enter Try.func17, Try.ntmps17
  go_wp2_with fail
  refine CAB.out.mono ?_
  rintro e _ ⟨rfl, rfl⟩
  go_wp2_with fail
  refine CCH.out.mono ?_
  rintro e w1 ⟨rfl, x1⟩
  have H2 := hid (HM0.out.ext x1)
  have X1 := hid x1
  clear x1
  go_wp2_with fail
  refine (CWI.out _).mono ?_
  rintro e _ ⟨rfl, rfl⟩
  go_wp2_with fail
  go_ret2
  exact ⟨rfl, X1.out⟩
set_option maxHeartbeats 4000000 in
set_option maxRecDepth 100000 in
theorem putnone_zero (h : CacM w g og mb most now R) {n : List UInt8} {kind ttl at_ : Int} (hn : n.length ≤ 2000000) (hb : checkS n = 0 ∧ ¬ kind < 0 ∧ ¬ 65535 < kind ∧ ttl = 0) (hat : inTime at_) :
    Calls Try.prog 17 #[pt g, .string (str n), .int .i64 kind, .int .i64 ttl, .int .i64 at_] w fun e w' => e = .returned (.tuple #[.bool false, .int .i64 0]) ∧ CacM w' g og mb most (tmax now at_) R ∧ Shy (wrC g og mb R) w w' := by
  have CWI := fun W => within_in at_ W
  rw [decide_eq_true hat] at CWI
  have CWI := hid CWI
  obtain ⟨tm, htm⟩ : ∃ tm, (if now < at_ then at_ else now) = tm := ⟨_, rfl⟩
  have htm2 : tmax now at_ = tm := by unfold tmax; exact htm
  rw [htm2]
  have HM0 := hid h
  have CAB := hid (absent_no h)
  have CCH := check_in n w hn
  obtain ⟨q, hq⟩ : ∃ q, checkS n = q := ⟨_, rfl⟩
  rw [hq] at CCH hb
  have CCH := hid CCH
  have b1 : (q == 0) = true := by simp [hb.1]
  have b2 : (q != 0) = false := by simp [hb.1]
  have b3 : decide (kind < 0) = false := by have := hb.2.1; simp; omega
  have b4 : decide (65535 < kind) = false := by have := hb.2.2.1; simp; omega
  have b5 : decide (ttl < 0) = false := by have := hb.2.2.2; simp; omega
  have b6 : decide (2147483648 ≤ ttl) = false := by have := hb.2.2.2; simp; omega
  have b8 : (ttl == 0) = true := by simpa using hb.2.2.2
  clear hb htm2
  simp only [pt]
  clear h hq hn
  go_enter Try.func17, Try.ntmps17
  go_wp2_with fail
  refine CAB.out.mono ?_
  rintro e _ ⟨rfl, rfl⟩
  go_wp2_with fail
  refine CCH.out.mono ?_
  rintro e w1 ⟨rfl, x1⟩
  have H2 := hid (HM0.out.ext x1)
  have X1 := hid x1
  clear x1
  go_wp2_with fail
  refine (CWI.out _).mono ?_
  rintro e _ ⟨rfl, rfl⟩
  have c1 : w1.cell? ⟨g, 1, none⟩ = some (.int .i64 now) := H2.out.1.cell 1
  have cf := H2.out.1.frozen
  have h3 := H2.out.time tm
  have s3 := set_shy g 1 (.int .i64 tm) w1
  obtain ⟨w2, hw2⟩ : ∃ w2, w1.setCell ⟨g, 1, none⟩ (.int .i64 tm) = w2 := ⟨_, rfl⟩
  rw [hw2] at h3 s3
  have HW2 := hid hw2
  have H3 := hid h3
  have S3 : Hid (Shy (wrC g og mb R) w w2) := hid ((Shy.of_ext X1.out).trans s3 (fun k _ e => .inl e))
  clear h3 s3 hw2
  go_upto_region 6 with (fail)
  rw [HW2.out]
  clear c1 cf htm
  go_wp2_with fail
  go_ret2
  exact ⟨rfl, H3.out, S3.out⟩
set_option maxHeartbeats 4000000 in
set_option maxRecDepth 100000 in
theorem get_bad1 (h : CacM w g og mb most now R) {n : List UInt8} {kind rank at_ : Int} (hn : n.length ≤ 2000000) (hb : checkS n ≠ 0) :
    Calls Try.prog 15 #[pt g, .string (str n), .int .i64 kind, .int .i64 rank, .int .i64 at_] w fun e w' => e = .returned (.agg #[.int .i64 0, .string ⟨#[]⟩, .int .i64 0, .int .i64 0, .int .i64 0, .slice none 0 0, .int .i64 0]) ∧ Ext w w' := by
  have xa := ext_alloc w (.cells #[.int .i64 0, .string ⟨#[]⟩, .int .i64 0, .int .i64 0, .int .i64 0, .slice none 0 0, .int .i64 0] 37)
  have bf := Blk.new w 37 #[.int .i64 0, .string ⟨#[]⟩, .int .i64 0, .int .i64 0, .int .i64 0, .slice none 0 0, .int .i64 0]
  obtain ⟨wa, hwa⟩ : ∃ wa, w.alloc (.cells #[.int .i64 0, .string ⟨#[]⟩, .int .i64 0, .int .i64 0, .int .i64 0, .slice none 0 0, .int .i64 0] 37) = wa := ⟨_, rfl⟩
  obtain ⟨gF, hgF⟩ : ∃ gF, w.heap.size = gF := ⟨_, rfl⟩
  rw [hwa] at xa bf
  rw [hgF] at bf
  have XA := hid xa
  have HWA := hid hwa
  have HGF := hid hgF
  have BF := hid bf
  have CAB := hid (absent_no (h.ext xa))
  have CCH := check_in n wa hn
  obtain ⟨q, hq⟩ : ∃ q, checkS n = q := ⟨_, rfl⟩
  rw [hq] at CCH hb
  have CCH := hid CCH
  have b1 : (q == 0) = false := by simpa using hb
  have b2 : (q != 0) = true := by simpa using hb
  clear hb h xa bf hwa hgF hq hn
  simp only [pt]
  go_enter Try.func15, Try.ntmps15
  go_upto_region 1 with (fail)
  rw [HWA.out, HGF.out]
  go_wp2_with fail
  refine CAB.out.mono ?_
  rintro e _ ⟨rfl, rfl⟩
  go_wp2_with fail
  refine CCH.out.mono ?_
  rintro e w1 ⟨rfl, x1⟩
  have B1 := hid (BF.out.ext x1)
  have X1 := hid (ext_trans XA.out x1)
  clear x1
  have r0 := B1.out.cell
  have rf := B1.out.frozen
  go_wp2_with fail
  refine bodyPost_ret (v := .agg #[.int .i64 0, .string ⟨#[]⟩, .int .i64 0, .int .i64 0, .int .i64 0, .slice none 0 0, .int .i64 0]) (by simp [results, Try.results15, go_sem, r0]) rfl ?_
  refine ⟨rfl, ?_⟩
  have sh9 : Shy (fun k => k = gF) w1 (((((((w1.setCell ⟨gF, 0, none⟩ (.int .i64 0)).setCell ⟨gF, 1, none⟩ (.string ⟨#[]⟩)).setCell ⟨gF, 2, none⟩ (.int .i64 0)).setCell ⟨gF, 3, none⟩ (.int .i64 0)).setCell ⟨gF, 4, none⟩ (.int .i64 0)).setCell ⟨gF, 5, none⟩ (.slice none 0 0)).setCell ⟨gF, 6, none⟩ (.int .i64 0)) := (((((((Shy.refl (U := fun k => k = gF) w1).set (b := gF) (fun _ => rfl) 0 _).set (b := gF) (fun _ => rfl) 1 _).set (b := gF) (fun _ => rfl) 2 _).set (b := gF) (fun _ => rfl) 3 _).set (b := gF) (fun _ => rfl) 4 _).set (b := gF) (fun _ => rfl) 5 _).set (b := gF) (fun _ => rfl) 6 _
  exact ((Shy.of_ext X1.out).trans sh9 (fun j hj e => e)).below (Nat.le_refl _) (fun j hj e => by have := HGF.out; omega)
set_option maxHeartbeats 4000000 in
set_option maxRecDepth 100000 in
theorem get_bad2 (h : CacM w g og mb most now R) {n : List UInt8} {kind rank at_ : Int} (hn : n.length ≤ 2000000) (hb : checkS n = 0 ∧ ¬ inTime at_) :
    Calls Try.prog 15 #[pt g, .string (str n), .int .i64 kind, .int .i64 rank, .int .i64 at_] w fun e w' => e = .returned (.agg #[.int .i64 0, .string ⟨#[]⟩, .int .i64 0, .int .i64 0, .int .i64 0, .slice none 0 0, .int .i64 0]) ∧ Ext w w' := by
  have xa := ext_alloc w (.cells #[.int .i64 0, .string ⟨#[]⟩, .int .i64 0, .int .i64 0, .int .i64 0, .slice none 0 0, .int .i64 0] 37)
  have bf := Blk.new w 37 #[.int .i64 0, .string ⟨#[]⟩, .int .i64 0, .int .i64 0, .int .i64 0, .slice none 0 0, .int .i64 0]
  obtain ⟨wa, hwa⟩ : ∃ wa, w.alloc (.cells #[.int .i64 0, .string ⟨#[]⟩, .int .i64 0, .int .i64 0, .int .i64 0, .slice none 0 0, .int .i64 0] 37) = wa := ⟨_, rfl⟩
  obtain ⟨gF, hgF⟩ : ∃ gF, w.heap.size = gF := ⟨_, rfl⟩
  rw [hwa] at xa bf
  rw [hgF] at bf
  have XA := hid xa
  have HWA := hid hwa
  have HGF := hid hgF
  have BF := hid bf
  have CAB := hid (absent_no (h.ext xa))
  have CCH := check_in n wa hn
  obtain ⟨q, hq⟩ : ∃ q, checkS n = q := ⟨_, rfl⟩
  rw [hq] at CCH hb
  have CCH := hid CCH
  have b1 : (q == 0) = true := by simp [hb.1]
  have b2 : (q != 0) = false := by simp [hb.1]
  have CWI := fun W => within_in at_ W
  rw [decide_eq_false hb.2] at CWI
  have CWI := hid CWI
  clear hb h xa bf hwa hgF hq hn
  simp only [pt]
  go_enter Try.func15, Try.ntmps15
  go_upto_region 1 with (fail)
  rw [HWA.out, HGF.out]
  go_wp2_with fail
  refine CAB.out.mono ?_
  rintro e _ ⟨rfl, rfl⟩
  go_wp2_with fail
  refine CCH.out.mono ?_
  rintro e w1 ⟨rfl, x1⟩
  have B1 := hid (BF.out.ext x1)
  have X1 := hid (ext_trans XA.out x1)
  clear x1
  go_wp2_with fail
  refine (CWI.out _).mono ?_
  rintro e _ ⟨rfl, rfl⟩
  have r0 := B1.out.cell
  have rf := B1.out.frozen
  go_wp2_with fail
  refine bodyPost_ret (v := .agg #[.int .i64 0, .string ⟨#[]⟩, .int .i64 0, .int .i64 0, .int .i64 0, .slice none 0 0, .int .i64 0]) (by simp [results, Try.results15, go_sem, r0]) rfl ?_
  refine ⟨rfl, ?_⟩
  have sh9 : Shy (fun k => k = gF) w1 (((((((w1.setCell ⟨gF, 0, none⟩ (.int .i64 0)).setCell ⟨gF, 1, none⟩ (.string ⟨#[]⟩)).setCell ⟨gF, 2, none⟩ (.int .i64 0)).setCell ⟨gF, 3, none⟩ (.int .i64 0)).setCell ⟨gF, 4, none⟩ (.int .i64 0)).setCell ⟨gF, 5, none⟩ (.slice none 0 0)).setCell ⟨gF, 6, none⟩ (.int .i64 0)) := (((((((Shy.refl (U := fun k => k = gF) w1).set (b := gF) (fun _ => rfl) 0 _).set (b := gF) (fun _ => rfl) 1 _).set (b := gF) (fun _ => rfl) 2 _).set (b := gF) (fun _ => rfl) 3 _).set (b := gF) (fun _ => rfl) 4 _).set (b := gF) (fun _ => rfl) 5 _).set (b := gF) (fun _ => rfl) 6 _
  exact ((Shy.of_ext X1.out).trans sh9 (fun j hj e => e)).below (Nat.le_refl _) (fun j hj e => by have := HGF.out; omega)
end
end Go.Proofs.Ytcddfenhkljpeaa

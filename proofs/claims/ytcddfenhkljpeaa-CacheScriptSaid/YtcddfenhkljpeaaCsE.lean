import Derived.Test.YtcddfenhkljpeaaChcBf
import Derived.Test.YtcddfenhkljpeaaChcBe
import Derived.Test.YtcddfenhkljpeaaChcT
/- Layer 23: what the document's PutSet and PutNone refuse, or do not keep. (Printed by gen_chcbg.py.) -/
namespace Go.Proofs.Ytcddfenhkljpeaa
open Go.BK Go.BK.CH Go.BK.NM Go.RowKit Go.Maps
set_option linter.unusedVariables false
set_option linter.unusedSimpArgs false
section
variable {w w' : World} {g : Nat} {most now : Int} {A : Option Addr} {c : Nat} {T : List TRow}
theorem RefC.time (h : RefC w g most now A c T) (t : Int) : RefC (w.setCell ⟨g, 2, none⟩ (.int .i64 t)) g most t A c T := by
  have s := set_shy g 2 (.int .i64 t) w
  refine ⟨?_, rdG_off h.r s (fun h0 k hk e => h.ne.1 h0 (by rw [hk, e])), fun x hx => rdG_off (h.d x hx) s (fun h0 k hk e => h.ne.2 x hx h0 (by rw [hk, e])), h.ne⟩
  have := h.b.set_ 2 (.int .i64 t)
  simpa using this
set_option maxHeartbeats 4000000 in
set_option maxRecDepth 100000 in
theorem rps_bad1 (h : RefC w g most now A c T) {s : SetS} {A' : Option Addr} {c' : Nat} (hA : RdG w 1 A' s.data.length c' (tvs s.data)) (hn : s.nm.length ≤ 2000000) (hd : ∀ d ∈ s.data, d.length ≤ 65535) {rank at_ : Int} (hb : chkS s ≠ 0) :
    Calls Try.prog 27 #[pt g, .agg #[.string (str s.nm), .int .i64 s.ty, .int .i64 s.cl, .int .i64 s.ttl, .slice A' s.data.length c'], .int .i64 rank, .int .i64 at_] w fun e w' => e = .returned (.tuple #[.bool false, .int .i64 2]) ∧ Ext w w' := by
  obtain ⟨sn, hsn⟩ : ∃ sn, s.data.length = sn := ⟨_, rfl⟩
  have CSC := fun W (x : Ext w W) => ref_set (s := s) (hA.ext x) hn hd
  obtain ⟨q, hq⟩ : ∃ q, chkS s = q := ⟨_, rfl⟩
  rw [hsn] at CSC ⊢
  rw [hq] at CSC hb
  have xa := ext_alloc w (.cells #[.string (str s.nm), .int .i64 s.ty, .int .i64 s.cl, .int .i64 s.ttl, .slice A' sn c'] 30)
  have bs := Blk.new w 30 #[.string (str s.nm), .int .i64 s.ty, .int .i64 s.cl, .int .i64 s.ttl, .slice A' sn c']
  obtain ⟨wa, hwa⟩ : ∃ wa, w.alloc (.cells #[.string (str s.nm), .int .i64 s.ty, .int .i64 s.cl, .int .i64 s.ttl, .slice A' sn c'] 30) = wa := ⟨_, rfl⟩
  obtain ⟨gs, hgs⟩ : ∃ gs, w.heap.size = gs := ⟨_, rfl⟩
  rw [hwa] at xa bs
  rw [hgs] at bs
  have HM0 := hid h
  have H1 := hid (h.ext xa)
  have XA := hid xa
  have BS := hid bs
  have HWA := hid hwa
  have HGS := hid hgs
  have CSC := hid CSC
  have b1 : (q == 0) = false := by simpa using hb
  have b2 : (q != 0) = true := by simpa using hb
  clear hb
  simp only [pt]
  clear h xa bs hwa hgs hA hsn hn hd hq
  go_enter Try.func27, Try.ntmps27
  go_upto_region 1 with (fail)
  rw [HWA.out, HGS.out]
  have k0 : wa.cell? ⟨gs, 0, none⟩ = some (.string (str s.nm)) := BS.out.cell 0
  have k1 : wa.cell? ⟨gs, 1, none⟩ = some (.int .i64 s.ty) := BS.out.cell 1
  have k2 : wa.cell? ⟨gs, 2, none⟩ = some (.int .i64 s.cl) := BS.out.cell 2
  have k3 : wa.cell? ⟨gs, 3, none⟩ = some (.int .i64 s.ttl) := BS.out.cell 3
  have k4 : wa.cell? ⟨gs, 4, none⟩ = some (.slice A' sn c') := BS.out.cell 4
  go_wp2_with fail
  refine (CSC.out wa XA.out).mono ?_
  rintro e w1 ⟨rfl, x1⟩
  have H2 := hid (H1.out.ext x1)
  have B2 := hid (BS.out.ext x1)
  have X1 := hid (ext_trans XA.out x1)
  have j1 : w1.cell? ⟨gs, 1, none⟩ = some (.int .i64 s.ty) := B2.out.cell 1
  have j2 : w1.cell? ⟨gs, 2, none⟩ = some (.int .i64 s.cl) := B2.out.cell 2
  clear x1 k0 k1 k2 k3 k4
  go_wp2_with fail
  go_ret2
  exact ⟨rfl, X1.out⟩
set_option maxHeartbeats 4000000 in
set_option maxRecDepth 100000 in
theorem rps_bad2 (h : RefC w g most now A c T) {s : SetS} {A' : Option Addr} {c' : Nat} (hA : RdG w 1 A' s.data.length c' (tvs s.data)) (hn : s.nm.length ≤ 2000000) (hd : ∀ d ∈ s.data, d.length ≤ 65535) {rank at_ : Int} (hb : chkS s = 0 ∧ s.cl ≠ 1) :
    Calls Try.prog 27 #[pt g, .agg #[.string (str s.nm), .int .i64 s.ty, .int .i64 s.cl, .int .i64 s.ttl, .slice A' s.data.length c'], .int .i64 rank, .int .i64 at_] w fun e w' => e = .returned (.tuple #[.bool false, .int .i64 2]) ∧ Ext w w' := by
  obtain ⟨sn, hsn⟩ : ∃ sn, s.data.length = sn := ⟨_, rfl⟩
  have CSC := fun W (x : Ext w W) => ref_set (s := s) (hA.ext x) hn hd
  obtain ⟨q, hq⟩ : ∃ q, chkS s = q := ⟨_, rfl⟩
  rw [hsn] at CSC ⊢
  rw [hq] at CSC hb
  have xa := ext_alloc w (.cells #[.string (str s.nm), .int .i64 s.ty, .int .i64 s.cl, .int .i64 s.ttl, .slice A' sn c'] 30)
  have bs := Blk.new w 30 #[.string (str s.nm), .int .i64 s.ty, .int .i64 s.cl, .int .i64 s.ttl, .slice A' sn c']
  obtain ⟨wa, hwa⟩ : ∃ wa, w.alloc (.cells #[.string (str s.nm), .int .i64 s.ty, .int .i64 s.cl, .int .i64 s.ttl, .slice A' sn c'] 30) = wa := ⟨_, rfl⟩
  obtain ⟨gs, hgs⟩ : ∃ gs, w.heap.size = gs := ⟨_, rfl⟩
  rw [hwa] at xa bs
  rw [hgs] at bs
  have HM0 := hid h
  have H1 := hid (h.ext xa)
  have XA := hid xa
  have BS := hid bs
  have HWA := hid hwa
  have HGS := hid hgs
  have CSC := hid CSC
  have b1 : (q == 0) = true := by simp [hb.1]
  have b2 : (q != 0) = false := by simp [hb.1]
  have b3 : (s.cl == 1) = false := by simpa using hb.2
  have b4 : (s.cl != 1) = true := by simpa using hb.2
  clear hb
  simp only [pt]
  clear h xa bs hwa hgs hA hsn hn hd hq
  go_enter Try.func27, Try.ntmps27
  go_upto_region 1 with (fail)
  rw [HWA.out, HGS.out]
  have k0 : wa.cell? ⟨gs, 0, none⟩ = some (.string (str s.nm)) := BS.out.cell 0
  have k1 : wa.cell? ⟨gs, 1, none⟩ = some (.int .i64 s.ty) := BS.out.cell 1
  have k2 : wa.cell? ⟨gs, 2, none⟩ = some (.int .i64 s.cl) := BS.out.cell 2
  have k3 : wa.cell? ⟨gs, 3, none⟩ = some (.int .i64 s.ttl) := BS.out.cell 3
  have k4 : wa.cell? ⟨gs, 4, none⟩ = some (.slice A' sn c') := BS.out.cell 4
  go_wp2_with fail
  refine (CSC.out wa XA.out).mono ?_
  rintro e w1 ⟨rfl, x1⟩
  have H2 := hid (H1.out.ext x1)
  have B2 := hid (BS.out.ext x1)
  have X1 := hid (ext_trans XA.out x1)
  have j1 : w1.cell? ⟨gs, 1, none⟩ = some (.int .i64 s.ty) := B2.out.cell 1
  have j2 : w1.cell? ⟨gs, 2, none⟩ = some (.int .i64 s.cl) := B2.out.cell 2
  clear x1 k0 k1 k2 k3 k4
  go_wp2_with fail
  go_ret2
  exact ⟨rfl, X1.out⟩
set_option maxHeartbeats 4000000 in
set_option maxRecDepth 100000 in
theorem rps_bad3 (h : RefC w g most now A c T) {s : SetS} {A' : Option Addr} {c' : Nat} (hA : RdG w 1 A' s.data.length c' (tvs s.data)) (hn : s.nm.length ≤ 2000000) (hd : ∀ d ∈ s.data, d.length ≤ 65535) {rank at_ : Int} (hb : chkS s = 0 ∧ s.cl = 1 ∧ s.ty = 0) :
    Calls Try.prog 27 #[pt g, .agg #[.string (str s.nm), .int .i64 s.ty, .int .i64 s.cl, .int .i64 s.ttl, .slice A' s.data.length c'], .int .i64 rank, .int .i64 at_] w fun e w' => e = .returned (.tuple #[.bool false, .int .i64 2]) ∧ Ext w w' := by
  obtain ⟨sn, hsn⟩ : ∃ sn, s.data.length = sn := ⟨_, rfl⟩
  have CSC := fun W (x : Ext w W) => ref_set (s := s) (hA.ext x) hn hd
  obtain ⟨q, hq⟩ : ∃ q, chkS s = q := ⟨_, rfl⟩
  rw [hsn] at CSC ⊢
  rw [hq] at CSC hb
  have xa := ext_alloc w (.cells #[.string (str s.nm), .int .i64 s.ty, .int .i64 s.cl, .int .i64 s.ttl, .slice A' sn c'] 30)
  have bs := Blk.new w 30 #[.string (str s.nm), .int .i64 s.ty, .int .i64 s.cl, .int .i64 s.ttl, .slice A' sn c']
  obtain ⟨wa, hwa⟩ : ∃ wa, w.alloc (.cells #[.string (str s.nm), .int .i64 s.ty, .int .i64 s.cl, .int .i64 s.ttl, .slice A' sn c'] 30) = wa := ⟨_, rfl⟩
  obtain ⟨gs, hgs⟩ : ∃ gs, w.heap.size = gs := ⟨_, rfl⟩
  rw [hwa] at xa bs
  rw [hgs] at bs
  have HM0 := hid h
  have H1 := hid (h.ext xa)
  have XA := hid xa
  have BS := hid bs
  have HWA := hid hwa
  have HGS := hid hgs
  have CSC := hid CSC
  have b1 : (q == 0) = true := by simp [hb.1]
  have b2 : (q != 0) = false := by simp [hb.1]
  have b3 : (s.cl == 1) = true := by simp [hb.2.1]
  have b4 : (s.cl != 1) = false := by simp [hb.2.1]
  have b5 : (s.ty == 0) = true := by simpa using hb.2.2
  clear hb
  simp only [pt]
  clear h xa bs hwa hgs hA hsn hn hd hq
  go_enter Try.func27, Try.ntmps27
  go_upto_region 1 with (fail)
  rw [HWA.out, HGS.out]
  have k0 : wa.cell? ⟨gs, 0, none⟩ = some (.string (str s.nm)) := BS.out.cell 0
  have k1 : wa.cell? ⟨gs, 1, none⟩ = some (.int .i64 s.ty) := BS.out.cell 1
  have k2 : wa.cell? ⟨gs, 2, none⟩ = some (.int .i64 s.cl) := BS.out.cell 2
  have k3 : wa.cell? ⟨gs, 3, none⟩ = some (.int .i64 s.ttl) := BS.out.cell 3
  have k4 : wa.cell? ⟨gs, 4, none⟩ = some (.slice A' sn c') := BS.out.cell 4
  go_wp2_with fail
  refine (CSC.out wa XA.out).mono ?_
  rintro e w1 ⟨rfl, x1⟩
  have H2 := hid (H1.out.ext x1)
  have B2 := hid (BS.out.ext x1)
  have X1 := hid (ext_trans XA.out x1)
  have j1 : w1.cell? ⟨gs, 1, none⟩ = some (.int .i64 s.ty) := B2.out.cell 1
  have j2 : w1.cell? ⟨gs, 2, none⟩ = some (.int .i64 s.cl) := B2.out.cell 2
  clear x1 k0 k1 k2 k3 k4
  go_wp2_with fail
  go_ret2
  exact ⟨rfl, X1.out⟩
set_option maxHeartbeats 4000000 in
set_option maxRecDepth 100000 in
theorem rps_bad4 (h : RefC w g most now A c T) {s : SetS} {A' : Option Addr} {c' : Nat} (hA : RdG w 1 A' s.data.length c' (tvs s.data)) (hn : s.nm.length ≤ 2000000) (hd : ∀ d ∈ s.data, d.length ≤ 65535) {rank at_ : Int} (hb : chkS s = 0 ∧ s.cl = 1 ∧ s.ty ≠ 0 ∧ rank < 1) :
    Calls Try.prog 27 #[pt g, .agg #[.string (str s.nm), .int .i64 s.ty, .int .i64 s.cl, .int .i64 s.ttl, .slice A' s.data.length c'], .int .i64 rank, .int .i64 at_] w fun e w' => e = .returned (.tuple #[.bool false, .int .i64 2]) ∧ Ext w w' := by
  obtain ⟨sn, hsn⟩ : ∃ sn, s.data.length = sn := ⟨_, rfl⟩
  have CSC := fun W (x : Ext w W) => ref_set (s := s) (hA.ext x) hn hd
  obtain ⟨q, hq⟩ : ∃ q, chkS s = q := ⟨_, rfl⟩
  rw [hsn] at CSC ⊢
  rw [hq] at CSC hb
  have xa := ext_alloc w (.cells #[.string (str s.nm), .int .i64 s.ty, .int .i64 s.cl, .int .i64 s.ttl, .slice A' sn c'] 30)
  have bs := Blk.new w 30 #[.string (str s.nm), .int .i64 s.ty, .int .i64 s.cl, .int .i64 s.ttl, .slice A' sn c']
  obtain ⟨wa, hwa⟩ : ∃ wa, w.alloc (.cells #[.string (str s.nm), .int .i64 s.ty, .int .i64 s.cl, .int .i64 s.ttl, .slice A' sn c'] 30) = wa := ⟨_, rfl⟩
  obtain ⟨gs, hgs⟩ : ∃ gs, w.heap.size = gs := ⟨_, rfl⟩
  rw [hwa] at xa bs
  rw [hgs] at bs
  have HM0 := hid h
  have H1 := hid (h.ext xa)
  have XA := hid xa
  have BS := hid bs
  have HWA := hid hwa
  have HGS := hid hgs
  have CSC := hid CSC
  have b1 : (q == 0) = true := by simp [hb.1]
  have b2 : (q != 0) = false := by simp [hb.1]
  have b3 : (s.cl == 1) = true := by simp [hb.2.1]
  have b4 : (s.cl != 1) = false := by simp [hb.2.1]
  have b5 : (s.ty == 0) = false := by simpa using hb.2.2.1
  have b6 : decide (rank < 1) = true := by simpa using hb.2.2.2
  clear hb
  simp only [pt]
  clear h xa bs hwa hgs hA hsn hn hd hq
  go_enter Try.func27, Try.ntmps27
  go_upto_region 1 with (fail)
  rw [HWA.out, HGS.out]
  have k0 : wa.cell? ⟨gs, 0, none⟩ = some (.string (str s.nm)) := BS.out.cell 0
  have k1 : wa.cell? ⟨gs, 1, none⟩ = some (.int .i64 s.ty) := BS.out.cell 1
  have k2 : wa.cell? ⟨gs, 2, none⟩ = some (.int .i64 s.cl) := BS.out.cell 2
  have k3 : wa.cell? ⟨gs, 3, none⟩ = some (.int .i64 s.ttl) := BS.out.cell 3
  have k4 : wa.cell? ⟨gs, 4, none⟩ = some (.slice A' sn c') := BS.out.cell 4
  go_wp2_with fail
  refine (CSC.out wa XA.out).mono ?_
  rintro e w1 ⟨rfl, x1⟩
  have H2 := hid (H1.out.ext x1)
  have B2 := hid (BS.out.ext x1)
  have X1 := hid (ext_trans XA.out x1)
  have j1 : w1.cell? ⟨gs, 1, none⟩ = some (.int .i64 s.ty) := B2.out.cell 1
  have j2 : w1.cell? ⟨gs, 2, none⟩ = some (.int .i64 s.cl) := B2.out.cell 2
  clear x1 k0 k1 k2 k3 k4
  go_wp2_with fail
  go_ret2
  exact ⟨rfl, X1.out⟩
set_option maxHeartbeats 4000000 in
set_option maxRecDepth 100000 in
theorem rps_bad5 (h : RefC w g most now A c T) {s : SetS} {A' : Option Addr} {c' : Nat} (hA : RdG w 1 A' s.data.length c' (tvs s.data)) (hn : s.nm.length ≤ 2000000) (hd : ∀ d ∈ s.data, d.length ≤ 65535) {rank at_ : Int} (hb : chkS s = 0 ∧ s.cl = 1 ∧ s.ty ≠ 0 ∧ ¬ rank < 1 ∧ 3 < rank) :
    Calls Try.prog 27 #[pt g, .agg #[.string (str s.nm), .int .i64 s.ty, .int .i64 s.cl, .int .i64 s.ttl, .slice A' s.data.length c'], .int .i64 rank, .int .i64 at_] w fun e w' => e = .returned (.tuple #[.bool false, .int .i64 2]) ∧ Ext w w' := by
  obtain ⟨sn, hsn⟩ : ∃ sn, s.data.length = sn := ⟨_, rfl⟩
  have CSC := fun W (x : Ext w W) => ref_set (s := s) (hA.ext x) hn hd
  obtain ⟨q, hq⟩ : ∃ q, chkS s = q := ⟨_, rfl⟩
  rw [hsn] at CSC ⊢
  rw [hq] at CSC hb
  have xa := ext_alloc w (.cells #[.string (str s.nm), .int .i64 s.ty, .int .i64 s.cl, .int .i64 s.ttl, .slice A' sn c'] 30)
  have bs := Blk.new w 30 #[.string (str s.nm), .int .i64 s.ty, .int .i64 s.cl, .int .i64 s.ttl, .slice A' sn c']
  obtain ⟨wa, hwa⟩ : ∃ wa, w.alloc (.cells #[.string (str s.nm), .int .i64 s.ty, .int .i64 s.cl, .int .i64 s.ttl, .slice A' sn c'] 30) = wa := ⟨_, rfl⟩
  obtain ⟨gs, hgs⟩ : ∃ gs, w.heap.size = gs := ⟨_, rfl⟩
  rw [hwa] at xa bs
  rw [hgs] at bs
  have HM0 := hid h
  have H1 := hid (h.ext xa)
  have XA := hid xa
  have BS := hid bs
  have HWA := hid hwa
  have HGS := hid hgs
  have CSC := hid CSC
  have b1 : (q == 0) = true := by simp [hb.1]
  have b2 : (q != 0) = false := by simp [hb.1]
  have b3 : (s.cl == 1) = true := by simp [hb.2.1]
  have b4 : (s.cl != 1) = false := by simp [hb.2.1]
  have b5 : (s.ty == 0) = false := by simpa using hb.2.2.1
  have b6 : decide (rank < 1) = false := by have := hb.2.2.2.1; simp; omega
  have b7 : decide (3 < rank) = true := by simpa using hb.2.2.2.2
  clear hb
  simp only [pt]
  clear h xa bs hwa hgs hA hsn hn hd hq
  go_enter Try.func27, Try.ntmps27
  go_upto_region 1 with (fail)
  rw [HWA.out, HGS.out]
  have k0 : wa.cell? ⟨gs, 0, none⟩ = some (.string (str s.nm)) := BS.out.cell 0
  have k1 : wa.cell? ⟨gs, 1, none⟩ = some (.int .i64 s.ty) := BS.out.cell 1
  have k2 : wa.cell? ⟨gs, 2, none⟩ = some (.int .i64 s.cl) := BS.out.cell 2
  have k3 : wa.cell? ⟨gs, 3, none⟩ = some (.int .i64 s.ttl) := BS.out.cell 3
  have k4 : wa.cell? ⟨gs, 4, none⟩ = some (.slice A' sn c') := BS.out.cell 4
  go_wp2_with fail
  refine (CSC.out wa XA.out).mono ?_
  rintro e w1 ⟨rfl, x1⟩
  have H2 := hid (H1.out.ext x1)
  have B2 := hid (BS.out.ext x1)
  have X1 := hid (ext_trans XA.out x1)
  have j1 : w1.cell? ⟨gs, 1, none⟩ = some (.int .i64 s.ty) := B2.out.cell 1
  have j2 : w1.cell? ⟨gs, 2, none⟩ = some (.int .i64 s.cl) := B2.out.cell 2
  clear x1 k0 k1 k2 k3 k4
  go_wp2_with fail
  go_ret2
  exact ⟨rfl, X1.out⟩
set_option maxHeartbeats 4000000 in
set_option maxRecDepth 100000 in
theorem rps_bad6 (h : RefC w g most now A c T) {s : SetS} {A' : Option Addr} {c' : Nat} (hA : RdG w 1 A' s.data.length c' (tvs s.data)) (hn : s.nm.length ≤ 2000000) (hd : ∀ d ∈ s.data, d.length ≤ 65535) {rank at_ : Int} (hb : chkS s = 0 ∧ s.cl = 1 ∧ s.ty ≠ 0 ∧ ¬ rank < 1 ∧ ¬ 3 < rank ∧ ¬ inTime at_) :
    Calls Try.prog 27 #[pt g, .agg #[.string (str s.nm), .int .i64 s.ty, .int .i64 s.cl, .int .i64 s.ttl, .slice A' s.data.length c'], .int .i64 rank, .int .i64 at_] w fun e w' => e = .returned (.tuple #[.bool false, .int .i64 2]) ∧ Ext w w' := by
  obtain ⟨sn, hsn⟩ : ∃ sn, s.data.length = sn := ⟨_, rfl⟩
  have CSC := fun W (x : Ext w W) => ref_set (s := s) (hA.ext x) hn hd
  obtain ⟨q, hq⟩ : ∃ q, chkS s = q := ⟨_, rfl⟩
  rw [hsn] at CSC ⊢
  rw [hq] at CSC hb
  have xa := ext_alloc w (.cells #[.string (str s.nm), .int .i64 s.ty, .int .i64 s.cl, .int .i64 s.ttl, .slice A' sn c'] 30)
  have bs := Blk.new w 30 #[.string (str s.nm), .int .i64 s.ty, .int .i64 s.cl, .int .i64 s.ttl, .slice A' sn c']
  obtain ⟨wa, hwa⟩ : ∃ wa, w.alloc (.cells #[.string (str s.nm), .int .i64 s.ty, .int .i64 s.cl, .int .i64 s.ttl, .slice A' sn c'] 30) = wa := ⟨_, rfl⟩
  obtain ⟨gs, hgs⟩ : ∃ gs, w.heap.size = gs := ⟨_, rfl⟩
  rw [hwa] at xa bs
  rw [hgs] at bs
  have HM0 := hid h
  have H1 := hid (h.ext xa)
  have XA := hid xa
  have BS := hid bs
  have HWA := hid hwa
  have HGS := hid hgs
  have CSC := hid CSC
  have b1 : (q == 0) = true := by simp [hb.1]
  have b2 : (q != 0) = false := by simp [hb.1]
  have b3 : (s.cl == 1) = true := by simp [hb.2.1]
  have b4 : (s.cl != 1) = false := by simp [hb.2.1]
  have b5 : (s.ty == 0) = false := by simpa using hb.2.2.1
  have b6 : decide (rank < 1) = false := by have := hb.2.2.2.1; simp; omega
  have b7 : decide (3 < rank) = false := by have := hb.2.2.2.2.1; simp; omega
  have CWI := fun W => rtime_in at_ W
  rw [decide_eq_false hb.2.2.2.2.2] at CWI
  have CWI := hid CWI
  clear hb
  simp only [pt]
  clear h xa bs hwa hgs hA hsn hn hd hq
  go_enter Try.func27, Try.ntmps27
  go_upto_region 1 with (fail)
  rw [HWA.out, HGS.out]
  have k0 : wa.cell? ⟨gs, 0, none⟩ = some (.string (str s.nm)) := BS.out.cell 0
  have k1 : wa.cell? ⟨gs, 1, none⟩ = some (.int .i64 s.ty) := BS.out.cell 1
  have k2 : wa.cell? ⟨gs, 2, none⟩ = some (.int .i64 s.cl) := BS.out.cell 2
  have k3 : wa.cell? ⟨gs, 3, none⟩ = some (.int .i64 s.ttl) := BS.out.cell 3
  have k4 : wa.cell? ⟨gs, 4, none⟩ = some (.slice A' sn c') := BS.out.cell 4
  go_wp2_with fail
  refine (CSC.out wa XA.out).mono ?_
  rintro e w1 ⟨rfl, x1⟩
  have H2 := hid (H1.out.ext x1)
  have B2 := hid (BS.out.ext x1)
  have X1 := hid (ext_trans XA.out x1)
  have j1 : w1.cell? ⟨gs, 1, none⟩ = some (.int .i64 s.ty) := B2.out.cell 1
  have j2 : w1.cell? ⟨gs, 2, none⟩ = some (.int .i64 s.cl) := B2.out.cell 2
  clear x1 k0 k1 k2 k3 k4
  go_wp2_with fail
  refine (CWI.out _).mono ?_
  rintro e _ ⟨rfl, rfl⟩
  go_wp2_with fail
  go_ret2
  exact ⟨rfl, X1.out⟩
set_option maxHeartbeats 4000000 in
set_option maxRecDepth 100000 in
theorem rps_zero (h : RefC w g most now A c T) {s : SetS} {A' : Option Addr} {c' : Nat} (hA : RdG w 1 A' s.data.length c' (tvs s.data)) (hn : s.nm.length ≤ 2000000) (hd : ∀ d ∈ s.data, d.length ≤ 65535) {rank at_ : Int} (hb : chkS s = 0 ∧ s.cl = 1 ∧ s.ty ≠ 0 ∧ ¬ rank < 1 ∧ ¬ 3 < rank ∧ s.ttl = 0) (hat : inTime at_) :
    Calls Try.prog 27 #[pt g, .agg #[.string (str s.nm), .int .i64 s.ty, .int .i64 s.cl, .int .i64 s.ttl, .slice A' s.data.length c'], .int .i64 rank, .int .i64 at_] w fun e w' => e = .returned (.tuple #[.bool false, .int .i64 0]) ∧ RefC w' g most (tmax now at_) A c T ∧ Shy (fun k => k = g) w w' := by
  have CWI := fun W => rtime_in at_ W
  rw [decide_eq_true hat] at CWI
  have CWI := hid CWI
  obtain ⟨tm, htm⟩ : ∃ tm, (if now < at_ then at_ else now) = tm := ⟨_, rfl⟩
  have htm2 : tmax now at_ = tm := by unfold tmax; exact htm
  rw [htm2]
  obtain ⟨sn, hsn⟩ : ∃ sn, s.data.length = sn := ⟨_, rfl⟩
  have CSC := fun W (x : Ext w W) => ref_set (s := s) (hA.ext x) hn hd
  obtain ⟨q, hq⟩ : ∃ q, chkS s = q := ⟨_, rfl⟩
  rw [hsn] at CSC ⊢
  rw [hq] at CSC hb
  have xa := ext_alloc w (.cells #[.string (str s.nm), .int .i64 s.ty, .int .i64 s.cl, .int .i64 s.ttl, .slice A' sn c'] 30)
  have bs := Blk.new w 30 #[.string (str s.nm), .int .i64 s.ty, .int .i64 s.cl, .int .i64 s.ttl, .slice A' sn c']
  obtain ⟨wa, hwa⟩ : ∃ wa, w.alloc (.cells #[.string (str s.nm), .int .i64 s.ty, .int .i64 s.cl, .int .i64 s.ttl, .slice A' sn c'] 30) = wa := ⟨_, rfl⟩
  obtain ⟨gs, hgs⟩ : ∃ gs, w.heap.size = gs := ⟨_, rfl⟩
  rw [hwa] at xa bs
  rw [hgs] at bs
  have HM0 := hid h
  have H1 := hid (h.ext xa)
  have XA := hid xa
  have BS := hid bs
  have HWA := hid hwa
  have HGS := hid hgs
  have CSC := hid CSC
  have b1 : (q == 0) = true := by simp [hb.1]
  have b2 : (q != 0) = false := by simp [hb.1]
  have b3 : (s.cl == 1) = true := by simp [hb.2.1]
  have b4 : (s.cl != 1) = false := by simp [hb.2.1]
  have b5 : (s.ty == 0) = false := by simpa using hb.2.2.1
  have b6 : decide (rank < 1) = false := by have := hb.2.2.2.1; simp; omega
  have b7 : decide (3 < rank) = false := by have := hb.2.2.2.2.1; simp; omega
  have b8 : (s.ttl == 0) = true := by simpa using hb.2.2.2.2.2
  clear hb htm2
  simp only [pt]
  clear h xa bs hwa hgs hA hsn hn hd hq
  go_enter Try.func27, Try.ntmps27
  go_upto_region 1 with (fail)
  rw [HWA.out, HGS.out]
  have k0 : wa.cell? ⟨gs, 0, none⟩ = some (.string (str s.nm)) := BS.out.cell 0
  have k1 : wa.cell? ⟨gs, 1, none⟩ = some (.int .i64 s.ty) := BS.out.cell 1
  have k2 : wa.cell? ⟨gs, 2, none⟩ = some (.int .i64 s.cl) := BS.out.cell 2
  have k3 : wa.cell? ⟨gs, 3, none⟩ = some (.int .i64 s.ttl) := BS.out.cell 3
  have k4 : wa.cell? ⟨gs, 4, none⟩ = some (.slice A' sn c') := BS.out.cell 4
  go_wp2_with fail
  refine (CSC.out wa XA.out).mono ?_
  rintro e w1 ⟨rfl, x1⟩
  have H2 := hid (H1.out.ext x1)
  have B2 := hid (BS.out.ext x1)
  have X1 := hid (ext_trans XA.out x1)
  have j1 : w1.cell? ⟨gs, 1, none⟩ = some (.int .i64 s.ty) := B2.out.cell 1
  have j2 : w1.cell? ⟨gs, 2, none⟩ = some (.int .i64 s.cl) := B2.out.cell 2
  clear x1 k0 k1 k2 k3 k4
  go_wp2_with fail
  refine (CWI.out _).mono ?_
  rintro e _ ⟨rfl, rfl⟩
  have c2 : w1.cell? ⟨g, 2, none⟩ = some (.int .i64 now) := H2.out.b.cell 2
  have cf := H2.out.b.frozen
  have h3 := H2.out.time tm
  have s3 := set_shy g 2 (.int .i64 tm) w1
  have b3' := B2.out.shy s3 (fun e => by have h1 := HM0.out.b.lt; have h2 := HGS.out; omega)
  obtain ⟨w2, hw2⟩ : ∃ w2, w1.setCell ⟨g, 2, none⟩ (.int .i64 tm) = w2 := ⟨_, rfl⟩
  rw [hw2] at h3 s3 b3'
  have HW2 := hid hw2
  have H3 := hid h3
  have S3 : Hid (Shy (fun k => k = g) w w2) := hid ((Shy.of_ext X1.out).trans s3 (fun k _ e => e))
  have j3 : w2.cell? ⟨gs, 3, none⟩ = some (.int .i64 s.ttl) := b3'.cell 3
  clear h3 s3 b3' hw2
  go_upto_region 4 with (fail)
  rw [HW2.out]
  clear c2 cf htm
  go_wp2_with fail
  go_ret2
  exact ⟨rfl, H3.out, S3.out⟩
set_option maxHeartbeats 4000000 in
set_option maxRecDepth 100000 in
theorem rpn_bad1 (h : RefC w g most now A c T) {n : List UInt8} {kind ttl at_ : Int} (hn : n.length ≤ 2000000) (hb : checkS n ≠ 0) :
    Calls Try.prog 22 #[pt g, .string (str n), .int .i64 kind, .int .i64 ttl, .int .i64 at_] w fun e w' => e = .returned (.tuple #[.bool false, .int .i64 2]) ∧ Ext w w' := by
  have HM0 := hid h
  have CCH := ref_check n w hn
  obtain ⟨q, hq⟩ : ∃ q, checkS n = q := ⟨_, rfl⟩
  rw [hq] at CCH hb
  have CCH := hid CCH
  have b1 : (q == 0) = false := by simpa using hb
  have b2 : (q != 0) = true := by simpa using hb
  clear hb
  simp only [pt]
  clear h hq hn
  go_enter Try.func22, Try.ntmps22
  go_wp2_with fail
  refine CCH.out.mono ?_
  rintro e w1 ⟨rfl, x1⟩
  have H2 := hid (HM0.out.ext x1)
  have X1 := hid x1
  clear x1
  go_wp2_with fail
  go_ret2
  exact ⟨rfl, X1.out⟩
set_option maxHeartbeats 4000000 in
set_option maxRecDepth 100000 in
theorem rpn_bad2 (h : RefC w g most now A c T) {n : List UInt8} {kind ttl at_ : Int} (hn : n.length ≤ 2000000) (hb : checkS n = 0 ∧ kind < 0) :
    Calls Try.prog 22 #[pt g, .string (str n), .int .i64 kind, .int .i64 ttl, .int .i64 at_] w fun e w' => e = .returned (.tuple #[.bool false, .int .i64 2]) ∧ Ext w w' := by
  have HM0 := hid h
  have CCH := ref_check n w hn
  obtain ⟨q, hq⟩ : ∃ q, checkS n = q := ⟨_, rfl⟩
  rw [hq] at CCH hb
  have CCH := hid CCH
  have b1 : (q == 0) = true := by simp [hb.1]
  have b2 : (q != 0) = false := by simp [hb.1]
  have b3 : decide (kind < 0) = true := by simpa using hb.2
  clear hb
  simp only [pt]
  clear h hq hn
  go_enter Try.func22, Try.ntmps22
  go_wp2_with fail
  refine CCH.out.mono ?_
  rintro e w1 ⟨rfl, x1⟩
  have H2 := hid (HM0.out.ext x1)
  have X1 := hid x1
  clear x1
  go_wp2_with fail
  go_ret2
  exact ⟨rfl, X1.out⟩
set_option maxHeartbeats 4000000 in
set_option maxRecDepth 100000 in
theorem rpn_bad3 (h : RefC w g most now A c T) {n : List UInt8} {kind ttl at_ : Int} (hn : n.length ≤ 2000000) (hb : checkS n = 0 ∧ ¬ kind < 0 ∧ 65535 < kind) :
    Calls Try.prog 22 #[pt g, .string (str n), .int .i64 kind, .int .i64 ttl, .int .i64 at_] w fun e w' => e = .returned (.tuple #[.bool false, .int .i64 2]) ∧ Ext w w' := by
  have HM0 := hid h
  have CCH := ref_check n w hn
  obtain ⟨q, hq⟩ : ∃ q, checkS n = q := ⟨_, rfl⟩
  rw [hq] at CCH hb
  have CCH := hid CCH
  have b1 : (q == 0) = true := by simp [hb.1]
  have b2 : (q != 0) = false := by simp [hb.1]
  have b3 : decide (kind < 0) = false := by have := hb.2.1; simp; omega
  have b4 : decide (65535 < kind) = true := by simpa using hb.2.2
  clear hb
  simp only [pt]
  clear h hq hn
  go_enter Try.func22, Try.ntmps22
  go_wp2_with fail
  refine CCH.out.mono ?_
  rintro e w1 ⟨rfl, x1⟩
  have H2 := hid (HM0.out.ext x1)
  have X1 := hid x1
  clear x1
  go_wp2_with fail
  go_ret2
  exact ⟨rfl, X1.out⟩
set_option maxHeartbeats 4000000 in
set_option maxRecDepth 100000 in
theorem rpn_bad4 (h : RefC w g most now A c T) {n : List UInt8} {kind ttl at_ : Int} (hn : n.length ≤ 2000000) (hb : checkS n = 0 ∧ ¬ kind < 0 ∧ ¬ 65535 < kind ∧ ttl < 0) :
    Calls Try.prog 22 #[pt g, .string (str n), .int .i64 kind, .int .i64 ttl, .int .i64 at_] w fun e w' => e = .returned (.tuple #[.bool false, .int .i64 2]) ∧ Ext w w' := by
  have HM0 := hid h
  have CCH := ref_check n w hn
  obtain ⟨q, hq⟩ : ∃ q, checkS n = q := ⟨_, rfl⟩
  rw [hq] at CCH hb
  have CCH := hid CCH
  have b1 : (q == 0) = true := by simp [hb.1]
  have b2 : (q != 0) = false := by simp [hb.1]
  have b3 : decide (kind < 0) = false := by have := hb.2.1; simp; omega
  have b4 : decide (65535 < kind) = false := by have := hb.2.2.1; simp; omega
  have b5 : decide (ttl < 0) = true := by simpa using hb.2.2.2
  clear hb
  simp only [pt]
  clear h hq hn
  go_enter Try.func22, Try.ntmps22
  go_wp2_with fail
  refine CCH.out.mono ?_
  rintro e w1 ⟨rfl, x1⟩
  have H2 := hid (HM0.out.ext x1)
  have X1 := hid x1
  clear x1
  go_wp2_with fail
  go_ret2
  exact ⟨rfl, X1.out⟩
set_option maxHeartbeats 4000000 in
set_option maxRecDepth 100000 in
theorem rpn_bad5 (h : RefC w g most now A c T) {n : List UInt8} {kind ttl at_ : Int} (hn : n.length ≤ 2000000) (hb : checkS n = 0 ∧ ¬ kind < 0 ∧ ¬ 65535 < kind ∧ ¬ ttl < 0 ∧ 2147483648 ≤ ttl) :
    Calls Try.prog 22 #[pt g, .string (str n), .int .i64 kind, .int .i64 ttl, .int .i64 at_] w fun e w' => e = .returned (.tuple #[.bool false, .int .i64 2]) ∧ Ext w w' := by
  have HM0 := hid h
  have CCH := ref_check n w hn
  obtain ⟨q, hq⟩ : ∃ q, checkS n = q := ⟨_, rfl⟩
  rw [hq] at CCH hb
  have CCH := hid CCH
  have b1 : (q == 0) = true := by simp [hb.1]
  have b2 : (q != 0) = false := by simp [hb.1]
  have b3 : decide (kind < 0) = false := by have := hb.2.1; simp; omega
  have b4 : decide (65535 < kind) = false := by have := hb.2.2.1; simp; omega
  have b5 : decide (ttl < 0) = false := by have := hb.2.2.2.1; simp; omega
  have b6 : decide (2147483647 < ttl) = true := by simp; omega
  clear hb
  simp only [pt]
  clear h hq hn
  go_enter Try.func22, Try.ntmps22
  go_wp2_with fail
  refine CCH.out.mono ?_
  rintro e w1 ⟨rfl, x1⟩
  have H2 := hid (HM0.out.ext x1)
  have X1 := hid x1
  clear x1
  go_wp2_with fail
  go_ret2
  exact ⟨rfl, X1.out⟩
set_option maxHeartbeats 4000000 in
set_option maxRecDepth 100000 in
theorem rpn_bad6 (h : RefC w g most now A c T) {n : List UInt8} {kind ttl at_ : Int} (hn : n.length ≤ 2000000) (hb : checkS n = 0 ∧ ¬ kind < 0 ∧ ¬ 65535 < kind ∧ ¬ ttl < 0 ∧ ¬ 2147483648 ≤ ttl ∧ ¬ inTime at_) :
    Calls Try.prog 22 #[pt g, .string (str n), .int .i64 kind, .int .i64 ttl, .int .i64 at_] w fun e w' => e = .returned (.tuple #[.bool false, .int .i64 2]) ∧ Ext w w' := by
  have HM0 := hid h
  have CCH := ref_check n w hn
  obtain ⟨q, hq⟩ : ∃ q, checkS n = q := ⟨_, rfl⟩
  rw [hq] at CCH hb
  have CCH := hid CCH
  have b1 : (q == 0) = true := by simp [hb.1]
  have b2 : (q != 0) = false := by simp [hb.1]
  have b3 : decide (kind < 0) = false := by have := hb.2.1; simp; omega
  have b4 : decide (65535 < kind) = false := by have := hb.2.2.1; simp; omega
  have b5 : decide (ttl < 0) = false := by have := hb.2.2.2.1; simp; omega
  have b6 : decide (2147483647 < ttl) = false := by have := hb.2.2.2.2.1; simp; omega
  have CWI := fun W => rtime_in at_ W
  rw [decide_eq_false hb.2.2.2.2.2] at CWI
  have CWI := hid CWI
  clear hb
  simp only [pt]
  clear h hq hn
  go_enter Try.func22, Try.ntmps22
  go_wp2_with fail
  refine CCH.out.mono ?_
  rintro e w1 ⟨rfl, x1⟩
  have H2 := hid (HM0.out.ext x1)
  have X1 := hid x1
  clear x1
  go_wp2_with fail
  refine (CWI.out _).mono ?_
  rintro e _ ⟨rfl, rfl⟩
  go_wp2_with fail
  go_ret2
  exact ⟨rfl, X1.out⟩
set_option maxHeartbeats 4000000 in
set_option maxRecDepth 100000 in
theorem rpn_zero (h : RefC w g most now A c T) {n : List UInt8} {kind ttl at_ : Int} (hn : n.length ≤ 2000000) (hb : checkS n = 0 ∧ ¬ kind < 0 ∧ ¬ 65535 < kind ∧ ttl = 0) (hat : inTime at_) :
    Calls Try.prog 22 #[pt g, .string (str n), .int .i64 kind, .int .i64 ttl, .int .i64 at_] w fun e w' => e = .returned (.tuple #[.bool false, .int .i64 0]) ∧ RefC w' g most (tmax now at_) A c T ∧ Shy (fun k => k = g) w w' := by
  have CWI := fun W => rtime_in at_ W
  rw [decide_eq_true hat] at CWI
  have CWI := hid CWI
  obtain ⟨tm, htm⟩ : ∃ tm, (if now < at_ then at_ else now) = tm := ⟨_, rfl⟩
  have htm2 : tmax now at_ = tm := by unfold tmax; exact htm
  rw [htm2]
  have HM0 := hid h
  have CCH := ref_check n w hn
  obtain ⟨q, hq⟩ : ∃ q, checkS n = q := ⟨_, rfl⟩
  rw [hq] at CCH hb
  have CCH := hid CCH
  have b1 : (q == 0) = true := by simp [hb.1]
  have b2 : (q != 0) = false := by simp [hb.1]
  have b3 : decide (kind < 0) = false := by have := hb.2.1; simp; omega
  have b4 : decide (65535 < kind) = false := by have := hb.2.2.1; simp; omega
  have b5 : decide (ttl < 0) = false := by simp [hb.2.2.2]
  have b6 : decide (2147483647 < ttl) = false := by simp [hb.2.2.2]
  have b7 : (ttl == 0) = true := by simp [hb.2.2.2]
  clear hb htm2
  simp only [pt]
  clear h hq hn
  go_enter Try.func22, Try.ntmps22
  go_wp2_with fail
  refine CCH.out.mono ?_
  rintro e w1 ⟨rfl, x1⟩
  have H2 := hid (HM0.out.ext x1)
  have X1 := hid x1
  clear x1
  go_wp2_with fail
  refine (CWI.out _).mono ?_
  rintro e _ ⟨rfl, rfl⟩
  have c2 : w1.cell? ⟨g, 2, none⟩ = some (.int .i64 now) := H2.out.b.cell 2
  have cf := H2.out.b.frozen
  have h3 := H2.out.time tm
  have s3 := set_shy g 2 (.int .i64 tm) w1
  obtain ⟨w2, hw2⟩ : ∃ w2, w1.setCell ⟨g, 2, none⟩ (.int .i64 tm) = w2 := ⟨_, rfl⟩
  rw [hw2] at h3 s3
  have HW2 := hid hw2
  have H3 := hid h3
  have S3 : Hid (Shy (fun k => k = g) w w2) := hid ((Shy.of_ext X1.out).trans s3 (fun k _ e => e))
  clear h3 s3 hw2
  go_upto_region 4 with (fail)
  rw [HW2.out]
  clear c2 cf htm
  go_wp2_with fail
  go_ret2
  exact ⟨rfl, H3.out, S3.out⟩
end
end Go.Proofs.Ytcddfenhkljpeaa
/- Layer 23: the document's cache, plain: its rows tell what the entries' words tell. -/
namespace Go.Proofs.Ytcddfenhkljpeaa
open Go.BK Go.BK.CH Go.BK.NM Go.RowKit Go.Maps
set_option linter.unusedVariables false
set_option linter.unusedSimpArgs false
theorem getT_mem {T : List TRow} {i : Nat} (hi : i < T.length) : T.getD i tr0 ∈ T := by
  rw [show T.getD i tr0 = T[i] from by simp [List.getD, hi]]
  exact List.getElem_mem hi
theorem live_idx {T : List TRow} (hd : DiffE (T.map (·.e))) (t : Int) (n : List UInt8) (k : Int) :
    liveE (T.map (·.e)) t n k = match idxT T n k with | some i => if t < (T.getD i tr0).e.x.till then some (T.getD i tr0).e else none | none => none := by
  rcases idxT_cases T n k with ⟨h1, h2⟩ | ⟨i, hi, h1, h2⟩
  · rw [h1]
    refine liveE_none ?_
    intro e he
    obtain ⟨t, ht, rfl⟩ := List.mem_map.1 he
    exact h2 t ht
  · rw [h1]
    simp only
    have hm : (T.getD i tr0).e ∈ T.map (·.e) := List.mem_map.2 ⟨_, getT_mem hi, rfl⟩
    obtain ⟨e1, e2⟩ := h2
    by_cases ht : t < (T.getD i tr0).e.x.till
    · rw [if_pos ht, ← e1, ← e2]
      exact liveE_mem hd hm ht
    · rw [if_neg ht, ← e1, ← e2]
      exact liveE_over hd hm (by omega)
/-- Does PutSet keep what there is? -/
def stayR (r : TRow) (tm rank : Int) : Bool := decide (tm < r.e.x.till) && (decide (rank < 3) && (!isOf r.e.x || decide (rank < rankOf r.e.x)))
def stayB (T : List TRow) (n : List UInt8) (k tm rank : Int) : Bool :=
  match idxT T n k with
  | some i => stayR (T.getD i tr0) tm rank
  | none => false
def lowT (T : List TRow) (n : List UInt8) (rank : Int) : List TRow := if rank = 3 then dropT T (idxT T n 0) else T
theorem lowT_sub (T : List TRow) (n : List UInt8) (rank : Int) : ∀ t ∈ lowT T n rank, t ∈ T := by
  unfold lowT
  split
  · exact dropT_sub T _
  · exact fun t h => h
theorem lowT_len (T : List TRow) (n : List UInt8) (rank : Int) : (lowT T n rank).length ≤ T.length := by
  unfold lowT
  split
  · exact dropT_len T _
  · exact Nat.le_refl _
section
variable {T : List TRow} {most now at_ rank : Int} {x : SetS}
theorem putS_stay (hd : DiffE (T.map (·.e))) (h : stayB T (lower x.nm) x.ty (tmax now at_) rank = true) : putS most ⟨now, T.map (·.e)⟩ x rank at_ = (⟨tmax now at_, T.map (·.e)⟩, false) := by
  unfold stayB at h
  cases hi : idxT T (lower x.nm) x.ty with
  | none => rw [hi] at h; simp at h
  | some i =>
    rw [hi] at h
    simp only [stayR, Bool.and_eq_true, decide_eq_true_eq] at h
    obtain ⟨h1, h2, h3⟩ := h
    unfold putS
    rw [if_pos h2]
    simp only
    rw [live_idx hd, hi]
    simp only
    rw [if_pos h1]
    cases hx : (T.getD i tr0).e with
    | mk a b y =>
      rw [hx] at h3
      cases y with
      | none t => rfl
      | known s rk t =>
        simp only [isOf, rankOf, Bool.not_true, Bool.false_or, decide_eq_true_eq] at h3
        have h4 := of_decide_eq_true h3
        simp only
        rw [if_neg (by omega)]
theorem putS_go (hd : DiffE (T.map (·.e))) (h3 : ¬ 3 < rank) (h : stayB T (lower x.nm) x.ty (tmax now at_) rank = false) {r : TRow} (hr : r.e = setE x rank (tmax now at_)) :
    putS most ⟨now, T.map (·.e)⟩ x rank at_ = (⟨tmax now at_, (putT most (lowT T (lower x.nm) rank) r).map (·.e)⟩, true) := by
  by_cases hk : rank < 3
  · have e : putS most ⟨now, T.map (·.e)⟩ x rank at_ = (⟨tmax now at_, putE most (T.map (·.e)) (setE x rank (tmax now at_))⟩, true) := by
      unfold putS
      rw [if_pos hk]
      simp only
      rw [live_idx hd]
      unfold stayB at h
      cases hi : idxT T (lower x.nm) x.ty with
      | none => rfl
      | some i =>
        rw [hi] at h
        simp only
        by_cases ht : tmax now at_ < (T.getD i tr0).e.x.till
        · rw [if_pos ht]
          cases hx : (T.getD i tr0).e with
          | mk a b y =>
            simp only [stayR] at h
            rw [hx] at h ht
            cases y with
            | none t => simp [isOf, ht, hk] at h
            | known s rk t =>
              simp only [isOf, rankOf, ht, hk, decide_true, Bool.not_true, Bool.false_or, Bool.true_and, decide_eq_false_iff_not] at h
              have h4 := of_decide_eq_false h
              simp only
              rw [if_pos (by omega)]
        · rw [if_neg ht]
    rw [e, ← hr, show lowT T (lower x.nm) rank = T from by unfold lowT; rw [if_neg (by omega)], putT_ent hd]
  · have hk3 : rank = 3 := by omega
    unfold putS
    rw [if_neg hk, ← hr]
    have e1 : lowT T (lower x.nm) rank = dropT T (idxT T (lower x.nm) 0) := by unfold lowT; rw [if_pos hk3]
    have e2 := dropT_ent hd (lower x.nm) 0
    rw [e1, putT_ent (by rw [e2]; exact outE_diff hd), e2]
/-- Does Get take what there is? -/
def takeR (r : TRow) (tm rank : Int) : Bool := decide (tm < r.e.x.till) && (!isOf r.e.x || decide (rank ≤ rankOf r.e.x))
def takeB (T : List TRow) (n : List UInt8) (k tm rank : Int) : Bool :=
  match idxT T n k with
  | some i => takeR (T.getD i tr0) tm rank
  | none => false
def backT (T : List TRow) (i : Nat) : List TRow := T.take i ++ T.drop (i + 1) ++ [T.getD i tr0]
def foundT (e : Ent) (kind tm : Int) : FoundS :=
  match e.x with
  | .known x _ t => ⟨1, ⟨x.nm, x.ty, x.cl, t - tm, x.data⟩, t - tm⟩
  | .none t => ⟨if kind = 0 then 3 else 2, zeroS, t - tm⟩
theorem backT_ent (hd : DiffE (T.map (·.e))) {n : List UInt8} {k : Int} {i : Nat} (h : idxT T n k = some i) (h2 : (T.getD i tr0).e.is n k) : (backT T i).map (·.e) = backE (T.map (·.e)) (T.getD i tr0).e := by
  have e := dropT_ent hd n k
  rw [h] at e
  unfold dropT at e
  simp only at e
  unfold backT backE
  rw [List.map_append, e, h2.1, h2.2]
  rfl
theorem idx_is {n : List UInt8} {k : Int} {i : Nat} (h : idxT T n k = some i) : i < T.length ∧ (T.getD i tr0).e.is n k := by
  rcases idxT_cases T n k with ⟨h1, h2⟩ | ⟨j, hj, h1, h2⟩
  · rw [h] at h1; cases h1
  · rw [h] at h1
    obtain rfl := Option.some.inj h1
    exact ⟨hj, h2⟩
theorem getS_yes (hd : DiffE (T.map (·.e))) {n : List UInt8} {kind : Int} {i : Nat} (h : idxT T (lower n) kind = some i) (h2 : takeR (T.getD i tr0) (tmax now at_) rank = true) :
    getS ⟨now, T.map (·.e)⟩ n kind rank at_ = (⟨tmax now at_, (backT T i).map (·.e)⟩, foundT (T.getD i tr0).e kind (tmax now at_)) := by
  obtain ⟨hi, his⟩ := idx_is h
  rw [backT_ent hd h his]
  unfold getS
  simp only
  rw [live_idx hd, h]
  simp only
  unfold takeR at h2
  simp only [Bool.and_eq_true, decide_eq_true_eq] at h2
  rw [if_pos h2.1]
  obtain ⟨h3, h4⟩ := h2
  generalize (T.getD i tr0).e = e at h3 h4 ⊢
  obtain ⟨a, b, y⟩ := e
  cases y with
  | none t => rfl
  | known s rk t =>
    simp only [isOf, rankOf, Bool.not_true, Bool.false_or, decide_eq_true_eq] at h4
    have h4 := of_decide_eq_true h4
    simp only
    rw [if_pos h4]
    rfl
theorem getS_no (hd : DiffE (T.map (·.e))) {n : List UInt8} {kind : Int} (h2 : takeB T (lower n) kind (tmax now at_) rank = false) :
    getS ⟨now, T.map (·.e)⟩ n kind rank at_ = get2S (T.map (·.e)) (tmax now at_) (lower n) := by
  unfold getS
  simp only
  rw [live_idx hd]
  unfold takeB at h2
  cases hi : idxT T (lower n) kind with
  | none => rfl
  | some i =>
    rw [hi] at h2
    simp only at h2 ⊢
    by_cases ht : tmax now at_ < (T.getD i tr0).e.x.till
    · rw [if_pos ht]
      unfold takeR at h2
      generalize (T.getD i tr0).e = e at h2 ht ⊢
      obtain ⟨a, b, y⟩ := e
      cases y with
      | none t => simp [isOf, ht] at h2
      | known s rk t =>
        simp only [isOf, rankOf, ht, decide_true, Bool.not_true, Bool.false_or, Bool.true_and, decide_eq_false_iff_not] at h2
        have h2 := of_decide_eq_false h2
        simp only
        rw [if_neg (by omega)]
    · rw [if_neg ht]
def live2 (T : List TRow) (n : List UInt8) (tm : Int) : Bool :=
  match idxT T n 0 with
  | some i => decide (tm < (T.getD i tr0).e.x.till)
  | none => false
theorem get2_yes (hd : DiffE (T.map (·.e))) {n : List UInt8} {tm : Int} {i : Nat} (h : idxT T n 0 = some i) (h2 : tm < (T.getD i tr0).e.x.till) :
    get2S (T.map (·.e)) tm n = (⟨tm, (backT T i).map (·.e)⟩, ⟨3, zeroS, (T.getD i tr0).e.x.till - tm⟩) := by
  obtain ⟨hi, his⟩ := idx_is h
  rw [backT_ent hd h his]
  unfold get2S
  rw [live_idx hd, h]
  simp only
  rw [if_pos h2]
theorem get2_no (hd : DiffE (T.map (·.e))) {n : List UInt8} {tm : Int} (h2 : live2 T n tm = false) : get2S (T.map (·.e)) tm n = (⟨tm, T.map (·.e)⟩, ⟨0, zeroS, 0⟩) := by
  unfold get2S
  rw [live_idx hd]
  unfold live2 at h2
  cases hi : idxT T n 0 with
  | none => rfl
  | some i =>
    rw [hi] at h2
    simp only [decide_eq_false_iff_not] at h2 ⊢
    rw [if_neg h2]
/-- What is left behind a walk from the end down to j. -/
def sweptT (p : TRow → Bool) (T : List TRow) (j : Nat) : List TRow := T.take j ++ (T.drop j).filter (fun t => !p t)
theorem swept_all (p : TRow → Bool) (T : List TRow) : sweptT p T T.length = T := by simp [sweptT]
theorem swept_none (p : TRow → Bool) (T : List TRow) : sweptT p T 0 = T.filter (fun t => !p t) := by simp [sweptT]
theorem swept_at (p : TRow → Bool) {T : List TRow} {j : Nat} (hj : j < T.length) : j < (sweptT p T (j + 1)).length ∧ (sweptT p T (j + 1)).getD j tr0 = T.getD j tr0 := by
  have h1 : (T.take (j + 1)).length = j + 1 := by rw [List.length_take]; omega
  refine ⟨by unfold sweptT; rw [List.length_append, h1]; omega, ?_⟩
  unfold sweptT
  simp only [List.getD_eq_getElem?_getD]
  rw [List.getElem?_append_left (by omega), List.getElem?_take_of_lt (by omega)]
theorem drop_split {T : List TRow} {j : Nat} (hj : j < T.length) : T.drop j = T.getD j tr0 :: T.drop (j + 1) := by
  rw [show T.getD j tr0 = T[j] from by simp [List.getD, hj], List.getElem_cons_drop]
theorem swept_out (p : TRow → Bool) {T : List TRow} {j : Nat} (hj : j < T.length) (h : p (T.getD j tr0) = true) : (sweptT p T (j + 1)).take j ++ (sweptT p T (j + 1)).drop (j + 1) = sweptT p T j := by
  have h1 : (T.take (j + 1)).length = j + 1 := by rw [List.length_take]; omega
  unfold sweptT
  rw [List.take_append_of_le_length (by omega), List.take_take, List.drop_append, List.drop_of_length_le (by omega : (T.take (j + 1)).length ≤ j + 1), h1, drop_split hj, List.filter_cons]
  simp only [h, Bool.not_true, Nat.sub_self, List.drop_zero, Nat.min_eq_left (Nat.le_succ j), List.nil_append]
  rfl
theorem swept_stay (p : TRow → Bool) {T : List TRow} {j : Nat} (hj : j < T.length) (h : p (T.getD j tr0) = false) : sweptT p T (j + 1) = sweptT p T j := by
  unfold sweptT
  rw [drop_split hj, List.filter_cons]
  simp only [h, Bool.not_false, if_true]
  have : T.take (j + 1) = T.take j ++ [T.getD j tr0] := by
    rw [List.take_succ_eq_append_getElem hj]
    simp [List.getD, hj]
  rw [this, List.append_assoc, List.singleton_append]
theorem swept_sub (p : TRow → Bool) (T : List TRow) (j : Nat) : ∀ t ∈ sweptT p T j, t ∈ T := by
  intro t ht
  unfold sweptT at ht
  rcases List.mem_append.1 ht with h | h
  · exact List.mem_of_mem_take h
  · exact List.mem_of_mem_drop (List.mem_filter.1 h).1
theorem swept_len (p : TRow → Bool) (T : List TRow) (j : Nat) : (sweptT p T j).length ≤ T.length := by
  unfold sweptT
  have h1 : ((T.drop j).filter (fun t => !p t)).length ≤ (T.drop j).length := List.length_filter_le _ _
  rw [List.length_append, List.length_take]
  rw [List.length_drop] at h1
  omega
end
end Go.Proofs.Ytcddfenhkljpeaa

import Derived.Test.YtcddfenhkljpeaaChcI
import Derived.Test.YtcddfenhkljpeaaKTxS
/- Layer 23: the law's names and sets; SameSet of the same. -/
namespace Go.Proofs.Ytcddfenhkljpeaa
open Go.BK Go.BK.CH Go.BK.NM Go.RowKit Go.Maps
set_option linter.unusedVariables false
set_option linter.unusedSimpArgs false
theorem a_in (w : World) : Calls Try.prog 16 #[] w fun e w' => e = .returned (.string (str [1, 97, 0])) ∧ w = w' := by
  go_enter Try.func16, Try.ntmps16
  go_wp2
  go_ret
  exact ⟨rfl, rfl⟩
theorem big_in (w : World) : Calls Try.prog 31 #[] w fun e w' => e = .returned (.string (str [1, 65, 0])) ∧ w = w' := by
  go_enter Try.func31, Try.ntmps31
  go_wp2
  go_ret
  exact ⟨rfl, rfl⟩
/-- a A ttl x. -/
def aSet (ttl : Int) : SetS := ⟨[1, 97, 0], 1, 1, ttl, [[120]]⟩
theorem aSet_ok (ttl : Int) (h : 0 ≤ ttl ∧ ttl < 2147483648) : SetOk (aSet ttl) :=
  ⟨by show checkS [1, 97, 0] = 0; decide +kernel, by show ([1, 97, 0] : List UInt8).length ≤ 2000000; decide, ⟨by show (0 : Int) ≤ 1; decide, by show (1 : Int) ≤ 65535; decide⟩, ⟨by show (0 : Int) ≤ 1; decide, by show (1 : Int) ≤ 65535; decide⟩, h,
    ⟨by show 1 ≤ ([[120]] : List (List UInt8)).length; decide, by show ([[120]] : List (List UInt8)).length ≤ 64; decide⟩, by show ([[120]] : List (List UInt8)).Nodup; decide, by show ∀ d ∈ ([[120]] : List (List UInt8)), d.length ≤ 65535; decide⟩
def SetD (w w' : World) (ttl : Int) (e : Ending) : Prop :=
  ∃ A c, e = .returned (.agg #[.string (str [1, 97, 0]), .int .i64 1, .int .i64 1, .int .i64 ttl, .slice A 1 c]) ∧ OwnG isT w' w.heap.size 9 1 A 1 c (tvs [[120]]) ∧ Ext w w'
set_option maxHeartbeats 2000000 in
set_option maxRecDepth 100000 in
theorem set_in (ttl : Int) (w : World) : Calls Try.prog 12 #[.int .i64 ttl] w fun e w' => SetD w w' ttl e := by
  have xa := ext_alloc w (.cells #[.string ⟨#[]⟩, .int .i64 0, .int .i64 0, .int .i64 0, .slice none 0 0] 30)
  have ba := Blk.new w 30 #[.string ⟨#[]⟩, .int .i64 0, .int .i64 0, .int .i64 0, .slice none 0 0]
  obtain ⟨wa, hwa⟩ : ∃ wa, w.alloc (.cells #[.string ⟨#[]⟩, .int .i64 0, .int .i64 0, .int .i64 0, .slice none 0 0] 30) = wa := ⟨_, rfl⟩
  obtain ⟨gs, hgs⟩ : ∃ gs, w.heap.size = gs := ⟨_, rfl⟩
  rw [hwa] at xa ba
  rw [hgs] at ba
  have XA := hid xa
  have BA := hid ba
  have HWA := hid hwa
  have HGS := hid hgs
  have AI := hid (a_in wa)
  obtain ⟨sa, hsa⟩ : ∃ sa, str [1, 97, 0] = sa := ⟨_, rfl⟩
  have HSA := hid hsa
  clear xa ba hwa hgs
  go_enter Try.func12, Try.ntmps12
  go_upto_region 1 with (fail)
  rw [HWA.out, HGS.out]
  go_wp2_with fail
  refine AI.out.mono ?_
  rintro e _ ⟨rfl, rfl⟩
  have xb := ext_alloc wa (.cells #[.string (str [120])] 9)
  have ob : OwnG isT (wa.alloc (.cells #[.string (str [120])] 9)) wa.heap.size 9 1 (some ⟨wa.heap.size, 0, none⟩) 1 1 (tvs [[120]]) := OwnG.new (ok := isT) (base := wa.heap.size) (size := 1) (e := 9) wa [.string (str [120])] 1 1 (Nat.le_refl _) rfl (Nat.le_refl _) (by simp [maxLen]) (by intro u hu; rw [List.mem_singleton] at hu; exact ⟨_, hu⟩)
  have bb := BA.out.ext xb
  obtain ⟨wb, hwb⟩ : ∃ wb, wa.alloc (.cells #[.string (str [120])] 9) = wb := ⟨_, rfl⟩
  obtain ⟨gd, hgd⟩ : ∃ gd, wa.heap.size = gd := ⟨_, rfl⟩
  rw [hwb] at xb ob bb
  rw [hgd] at ob
  have hwb2 : wa.alloc (.cells #[.string ⟨#[120]⟩] 9) = wb := hwb
  have r0 := bb.cell
  have rf := bb.frozen
  have OB := hid ob
  have X2 := hid (ext_trans XA.out xb)
  have hgg : w.heap.size ≤ gs ∧ gs < gd := ⟨by have := HGS.out; omega, by have := BA.out.lt; omega⟩
  clear ob xb bb hwb
  go_wp2_with fail
  refine bodyPost_ret (v := .agg #[.string sa, .int .i64 1, .int .i64 1, .int .i64 ttl, .slice (some ⟨gd, 0, none⟩) 1 1]) (by simp [results, Try.results12, go_sem, r0]) rfl ?_
  have sh : Shy (fun k => k = gs) wb (((((wb.setCell ⟨gs, 0, none⟩ (.string sa)).setCell ⟨gs, 1, none⟩ (.int .i64 1)).setCell ⟨gs, 2, none⟩ (.int .i64 1)).setCell ⟨gs, 3, none⟩ (.int .i64 ttl)).setCell ⟨gs, 4, none⟩ (.slice (some ⟨gd, 0, none⟩) 1 1)) := (((((Shy.refl (U := fun k => k = gs) wb).set (b := gs) (fun _ => rfl) 0 _).set (b := gs) (fun _ => rfl) 1 _).set (b := gs) (fun _ => rfl) 2 _).set (b := gs) (fun _ => rfl) 3 _).set (b := gs) (fun _ => rfl) 4 _
  refine ⟨some ⟨gd, 0, none⟩, 1, (by rw [HSA.out]), ?_, ?_⟩
  · refine (sh.ownG OB.out (fun k hk e => ?_)).mono (by omega)
    simp at hk
    omega
  · exact ((Shy.of_ext X2.out (U := fun k => k = gs)).trans sh (fun j hj e => e)).below (Nat.le_refl _) (fun j hj e => by omega)
set_option maxHeartbeats 2000000 in
set_option maxRecDepth 100000 in
theorem same_set {w : World} {s : SetS} {A B : Option Addr} {ca cb : Nat} (ha : RdG w 1 A s.data.length ca (tvs s.data)) (hb : RdG w 1 B s.data.length cb (tvs s.data)) (h9 : s.data.length ≤ 1000000) :
    Calls Try.prog 28 #[.agg #[.string (str s.nm), .int .i64 s.ty, .int .i64 s.cl, .int .i64 s.ttl, .slice A s.data.length ca], .agg #[.string (str s.nm), .int .i64 s.ty, .int .i64 s.cl, .int .i64 s.ttl, .slice B s.data.length cb]] w fun e w' => e = .returned (.bool true) ∧ Ext w w' := by
  have CS := fun W (x : Ext w W) => same_texts (ha.ext x) (hb.ext x) h9
  rw [decide_eq_true (rfl : s.data = s.data)] at CS
  obtain ⟨sn, hsn⟩ : ∃ sn, str s.nm = sn := ⟨_, rfl⟩
  obtain ⟨n, hn⟩ : ∃ n, s.data.length = n := ⟨_, rfl⟩
  rw [hsn, hn]
  rw [hn] at CS
  have CS := hid CS
  clear ha hb h9 hsn hn
  have xa := ext_alloc w (.cells #[.string sn, .int .i64 s.ty, .int .i64 s.cl, .int .i64 s.ttl, .slice A n ca] 30)
  have ba := Blk.new w 30 #[.string sn, .int .i64 s.ty, .int .i64 s.cl, .int .i64 s.ttl, .slice A n ca]
  obtain ⟨wa, hwa⟩ : ∃ wa, w.alloc (.cells #[.string sn, .int .i64 s.ty, .int .i64 s.cl, .int .i64 s.ttl, .slice A n ca] 30) = wa := ⟨_, rfl⟩
  obtain ⟨g1, hg1⟩ : ∃ g1, w.heap.size = g1 := ⟨_, rfl⟩
  rw [hwa] at xa ba
  rw [hg1] at ba
  have xb := ext_alloc wa (.cells #[.string sn, .int .i64 s.ty, .int .i64 s.cl, .int .i64 s.ttl, .slice B n cb] 30)
  have bb := Blk.new wa 30 #[.string sn, .int .i64 s.ty, .int .i64 s.cl, .int .i64 s.ttl, .slice B n cb]
  have ba := ba.ext xb
  obtain ⟨wb, hwb⟩ : ∃ wb, wa.alloc (.cells #[.string sn, .int .i64 s.ty, .int .i64 s.cl, .int .i64 s.ttl, .slice B n cb] 30) = wb := ⟨_, rfl⟩
  obtain ⟨g2, hg2⟩ : ∃ g2, wa.heap.size = g2 := ⟨_, rfl⟩
  rw [hwb] at xb ba bb
  rw [hg2] at bb
  have XX := hid (ext_trans xa xb)
  have C := hid (CS.out wb XX.out)
  have a0 := ba.cell 0
  have a1 := ba.cell 1
  have a2 := ba.cell 2
  have a3 := ba.cell 3
  have a4 := ba.cell 4
  have b0 := bb.cell 0
  have b1 := bb.cell 1
  have b2 := bb.cell 2
  have b3 := bb.cell 3
  have b4 := bb.cell 4
  simp at a0 a1 a2 a3 a4 b0 b1 b2 b3 b4
  clear xa xb ba bb CS
  go_enter Try.func28, Try.ntmps28
  go_upto_region 1 with (fail)
  go_wp2_with fail
  refine C.out.mono ?_
  rintro e w2 ⟨rfl, x2⟩
  go_wp2_with fail
  go_ret
  exact ⟨rfl, ext_trans XX.out x2⟩
end Go.Proofs.Ytcddfenhkljpeaa

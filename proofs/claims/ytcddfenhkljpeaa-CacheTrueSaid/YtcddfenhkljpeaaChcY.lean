/- Layer 23: who is none; two things that are found. -/
import Derived.Test.YtcddfenhkljpeaaChcX
import Derived.Test.YtcddfenhkljpeaaChcJ
namespace Go.Proofs.Ytcddfenhkljpeaa
open Go.BK Go.BK.CH Go.BK.NM Go.RowKit Go.Maps
set_option linter.unusedVariables false
set_option linter.unusedSimpArgs false
/-- A cache that is none, or that New did not make. -/
def AbsV (w : World) (v : Value) : Prop := ∀ W, Ext w W → Calls Try.prog 33 #[v] W fun e w' => e = .returned (.bool true) ∧ W = w'
theorem absV_nil (w : World) : AbsV w (.pointer none) := fun W _ => absent_nil W
theorem absV_zero {w : World} {g : Nat} (h : ZeroC w g) : AbsV w (.pointer (some ⟨g, 0, none⟩)) := fun W x => absent_zero (g := g) (Blk.ext h x)
theorem AbsV.ext {w w' : World} {v : Value} (h : AbsV w v) (x : Ext w w') : AbsV w' v := fun W y => h W (ext_trans x y)
set_option maxHeartbeats 2000000 in
set_option maxRecDepth 100000 in
theorem putset_abs {w : World} {v : Value} (h : AbsV w v) (s : SetS) (A : Option Addr) (d : Nat) (rank at_ : Int) :
    Calls Try.prog 14 #[v, .agg #[.string (str s.nm), .int .i64 s.ty, .int .i64 s.cl, .int .i64 s.ttl, .slice A s.data.length d], .int .i64 rank, .int .i64 at_] w fun e w' => e = .returned (.tuple #[.bool false, .int .i64 1]) ∧ Ext w w' := by
  obtain ⟨sn, hsn⟩ : ∃ sn, str s.nm = sn := ⟨_, rfl⟩
  obtain ⟨n, hn⟩ : ∃ n, s.data.length = n := ⟨_, rfl⟩
  rw [hsn, hn]
  have C := hid h
  clear h hsn hn
  go_enter Try.func14, Try.ntmps14
  go_wp2_with fail
  refine (C.out _ (ext_alloc _ _)).mono ?_
  rintro e _ ⟨rfl, rfl⟩
  go_wp2_with fail
  go_ret2
  exact ⟨rfl, ext_alloc _ _⟩
set_option maxHeartbeats 2000000 in
set_option maxRecDepth 100000 in
theorem putnone_abs {w : World} {v : Value} (h : AbsV w v) (n : ByteArray) (kind ttl at_ : Int) :
    Calls Try.prog 17 #[v, .string n, .int .i64 kind, .int .i64 ttl, .int .i64 at_] w fun e w' => e = .returned (.tuple #[.bool false, .int .i64 1]) ∧ Ext w w' := by
  have C := hid h
  clear h
  go_enter Try.func17, Try.ntmps17
  go_wp2_with fail
  refine (C.out _ (ext_refl _)).mono ?_
  rintro e _ ⟨rfl, rfl⟩
  go_wp2_with fail
  go_ret2
  exact ⟨rfl, ext_refl _⟩
set_option maxHeartbeats 2000000 in
set_option maxRecDepth 100000 in
theorem get_abs {w : World} {v : Value} (h : AbsV w v) (n : ByteArray) (kind rank at_ : Int) :
    Calls Try.prog 15 #[v, .string n, .int .i64 kind, .int .i64 rank, .int .i64 at_] w fun e w' => e = .returned (.agg #[.int .i64 0, .string ⟨#[]⟩, .int .i64 0, .int .i64 0, .int .i64 0, .slice none 0 0, .int .i64 0]) ∧ Ext w w' := by
  have C := hid h
  clear h
  have xa := ext_alloc w (.cells #[.int .i64 0, .string ⟨#[]⟩, .int .i64 0, .int .i64 0, .int .i64 0, .slice none 0 0, .int .i64 0] 37)
  have bf := Blk.new w 37 #[.int .i64 0, .string ⟨#[]⟩, .int .i64 0, .int .i64 0, .int .i64 0, .slice none 0 0, .int .i64 0]
  obtain ⟨wa, hwa⟩ : ∃ wa, w.alloc (.cells #[.int .i64 0, .string ⟨#[]⟩, .int .i64 0, .int .i64 0, .int .i64 0, .slice none 0 0, .int .i64 0] 37) = wa := ⟨_, rfl⟩
  obtain ⟨gF, hgF⟩ : ∃ gF, w.heap.size = gF := ⟨_, rfl⟩
  rw [hwa] at xa bf
  rw [hgF] at bf
  have XA := hid xa
  have HWA := hid hwa
  have HGF := hid hgF
  have BF := hid bf
  clear xa bf hwa hgF
  go_enter Try.func15, Try.ntmps15
  go_upto_region 1 with (fail)
  rw [HWA.out, HGF.out]
  go_wp2_with fail
  refine (C.out _ XA.out).mono ?_
  rintro e _ ⟨rfl, rfl⟩
  have r0 := BF.out.cell
  have rf := BF.out.frozen
  go_wp2_with fail
  refine bodyPost_ret (v := .agg #[.int .i64 0, .string ⟨#[]⟩, .int .i64 0, .int .i64 0, .int .i64 0, .slice none 0 0, .int .i64 0]) (by simp [results, Try.results15, go_sem, r0]) rfl ?_
  refine ⟨rfl, ?_⟩
  have sh9 : Shy (fun k => k = gF) wa (((((((wa.setCell ⟨gF, 0, none⟩ (.int .i64 0)).setCell ⟨gF, 1, none⟩ (.string ⟨#[]⟩)).setCell ⟨gF, 2, none⟩ (.int .i64 0)).setCell ⟨gF, 3, none⟩ (.int .i64 0)).setCell ⟨gF, 4, none⟩ (.int .i64 0)).setCell ⟨gF, 5, none⟩ (.slice none 0 0)).setCell ⟨gF, 6, none⟩ (.int .i64 0)) := (((((((Shy.refl (U := fun k => k = gF) wa).set (b := gF) (fun _ => rfl) 0 _).set (b := gF) (fun _ => rfl) 1 _).set (b := gF) (fun _ => rfl) 2 _).set (b := gF) (fun _ => rfl) 3 _).set (b := gF) (fun _ => rfl) 4 _).set (b := gF) (fun _ => rfl) 5 _).set (b := gF) (fun _ => rfl) 6 _
  exact ((Shy.of_ext XA.out).trans sh9 (fun j hj e => e)).below (Nat.le_refl _) (fun j hj e => by have := HGF.out; omega)
set_option maxHeartbeats 2000000 in
set_option maxRecDepth 100000 in
theorem sweep_abs {w : World} {v : Value} (h : AbsV w v) (at_ : Int) :
    Calls Try.prog 25 #[v, .int .i64 at_] w fun e w' => e = .returned (.int .i64 0) ∧ Ext w w' := by
  have C := hid h
  clear h
  go_enter Try.func25, Try.ntmps25
  go_wp2_with fail
  refine (C.out _ (ext_refl _)).mono ?_
  rintro e _ ⟨rfl, rfl⟩
  go_wp2_with fail
  go_ret
  exact ⟨rfl, ext_refl _⟩
set_option maxHeartbeats 2000000 in
set_option maxRecDepth 100000 in
theorem len_abs {w : World} {v : Value} (h : AbsV w v) :
    Calls Try.prog 18 #[v] w fun e w' => e = .returned (.int .i64 0) ∧ Ext w w' := by
  have C := hid h
  clear h
  go_enter Try.func18, Try.ntmps18
  go_wp2_with fail
  refine (C.out _ (ext_refl _)).mono ?_
  rintro e _ ⟨rfl, rfl⟩
  go_wp2_with fail
  go_ret
  exact ⟨rfl, ext_refl _⟩
set_option maxHeartbeats 2000000 in
set_option maxRecDepth 100000 in
theorem has_abs {w : World} {v : Value} (h : AbsV w v) (n : ByteArray) (kind : Int) :
    Calls Try.prog 19 #[v, .string n, .int .i64 kind] w fun e w' => e = .returned (.bool false) ∧ Ext w w' := by
  have C := hid h
  clear h
  go_enter Try.func19, Try.ntmps19
  go_wp2_with fail
  refine (C.out _ (ext_refl _)).mono ?_
  rintro e _ ⟨rfl, rfl⟩
  go_wp2_with fail
  go_ret
  exact ⟨rfl, ext_refl _⟩
def fndV (k : Int) (n : ByteArray) (ty cl ttl : Int) (A : Option Addr) (m c : Nat) (l : Int) : Value := .agg #[.int .i64 k, .string n, .int .i64 ty, .int .i64 cl, .int .i64 ttl, .slice A m c, .int .i64 l]
set_option maxHeartbeats 2000000 in
set_option maxRecDepth 100000 in
theorem same_found {w : World} {k l : Int} {s : SetS} {A B : Option Addr} {ca cb : Nat} (ha : RdG w 1 A s.data.length ca (tvs s.data)) (hb : RdG w 1 B s.data.length cb (tvs s.data)) (h9 : s.data.length ≤ 1000000) :
    Calls Try.prog 24 #[fndV k (str s.nm) s.ty s.cl s.ttl A s.data.length ca l, fndV k (str s.nm) s.ty s.cl s.ttl B s.data.length cb l] w fun e w' => e = .returned (.bool true) ∧ Ext w w' := by
  have CS := fun W (x : Ext w W) => same_set (ha.ext x) (hb.ext x) h9
  obtain ⟨sn, hsn⟩ : ∃ sn, str s.nm = sn := ⟨_, rfl⟩
  obtain ⟨n, hn⟩ : ∃ n, s.data.length = n := ⟨_, rfl⟩
  rw [hsn, hn] at CS ⊢
  unfold fndV
  have CS := hid CS
  clear ha hb h9 hsn hn
  have xa := ext_alloc w (.cells #[.int .i64 k, .string sn, .int .i64 s.ty, .int .i64 s.cl, .int .i64 s.ttl, .slice A n ca, .int .i64 l] 37)
  have ba := Blk.new w 37 #[.int .i64 k, .string sn, .int .i64 s.ty, .int .i64 s.cl, .int .i64 s.ttl, .slice A n ca, .int .i64 l]
  obtain ⟨wa, hwa⟩ : ∃ wa, w.alloc (.cells #[.int .i64 k, .string sn, .int .i64 s.ty, .int .i64 s.cl, .int .i64 s.ttl, .slice A n ca, .int .i64 l] 37) = wa := ⟨_, rfl⟩
  obtain ⟨g1, hg1⟩ : ∃ g1, w.heap.size = g1 := ⟨_, rfl⟩
  rw [hwa] at xa ba
  rw [hg1] at ba
  have xb := ext_alloc wa (.cells #[.int .i64 k, .string sn, .int .i64 s.ty, .int .i64 s.cl, .int .i64 s.ttl, .slice B n cb, .int .i64 l] 37)
  have bb := Blk.new wa 37 #[.int .i64 k, .string sn, .int .i64 s.ty, .int .i64 s.cl, .int .i64 s.ttl, .slice B n cb, .int .i64 l]
  have ba := ba.ext xb
  obtain ⟨wb, hwb⟩ : ∃ wb, wa.alloc (.cells #[.int .i64 k, .string sn, .int .i64 s.ty, .int .i64 s.cl, .int .i64 s.ttl, .slice B n cb, .int .i64 l] 37) = wb := ⟨_, rfl⟩
  obtain ⟨g2, hg2⟩ : ∃ g2, wa.heap.size = g2 := ⟨_, rfl⟩
  rw [hwb] at xb ba bb
  rw [hg2] at bb
  have XX := hid (ext_trans xa xb)
  have C := hid (CS.out wb XX.out)
  have a0 := ba.cell 0
  have a1 := ba.cell 1
  have a2 := ba.cell 2
  have a3 := ba.cell 3
  have a4 := ba.cell 4
  have a5 := ba.cell 5
  have a6 := ba.cell 6
  have b0 := bb.cell 0
  have b1 := bb.cell 1
  have b2 := bb.cell 2
  have b3 := bb.cell 3
  have b4 := bb.cell 4
  have b5 := bb.cell 5
  have b6 := bb.cell 6
  simp at a0 a1 a2 a3 a4 a5 a6 b0 b1 b2 b3 b4 b5 b6
  clear xa xb ba bb CS
  go_enter Try.func24, Try.ntmps24
  go_upto_region 1 with (fail)
  go_wp2_with fail
  refine C.out.mono ?_
  rintro e w2 ⟨rfl, x2⟩
  go_wp2_with fail
  go_ret
  exact ⟨rfl, ext_trans XX.out x2⟩
end Go.Proofs.Ytcddfenhkljpeaa

/- Layer 23: sets.Less; was what is found put? (Printed by gen_chcag.py.) -/
import Derived.Test.YtcddfenhkljpeaaChcY
import Derived.Test.YtcddfenhkljpeaaNamN
import Derived.Test.YtcddfenhkljpeaaKitE
namespace Go.BK.CH
structure PutS where
  nm : List UInt8
  kind : Int
  s : SetS
  is : Bool
  ttl : Int
  rank : Int
  now : Int
structure Pm where
  p : PutS
  A : Option Addr
  d : Nat
end Go.BK.CH
namespace Go.Proofs.Ytcddfenhkljpeaa
open Go.BK Go.BK.CH Go.BK.NM Go.RowKit Go.Maps
set_option linter.unusedVariables false
set_option linter.unusedSimpArgs false
def LessD (w w' : World) (s : SetS) (n : Int) (e : Ending) : Prop :=
  ∃ A c, e = .returned (.agg #[.string (str s.nm), .int .i64 s.ty, .int .i64 s.cl, .int .i64 (s.ttl - n), .slice A s.data.length c]) ∧ OwnG isT w' w.heap.size 9 1 A s.data.length c (tvs s.data) ∧ Ext w w'
set_option maxHeartbeats 4000000 in
set_option maxRecDepth 100000 in
theorem less_in {w : World} {s : SetS} {A : Option Addr} {c : Nat} {n : Int} (hA : RdG w 1 A s.data.length c (tvs s.data)) (h1 : 1 ≤ s.data.length) (hl : s.data.length ≤ 1000000) (hn : 0 ≤ n ∧ n ≤ s.ttl) (ht : s.ttl ≤ 9223372036854775807) :
    Calls Try.prog 57 #[.agg #[.string (str s.nm), .int .i64 s.ty, .int .i64 s.cl, .int .i64 s.ttl, .slice A s.data.length c], .int .i64 n] w fun e w' => LessD w w' s n e := by
  obtain ⟨sn, hsn⟩ : ∃ sn, str s.nm = sn := ⟨_, rfl⟩
  obtain ⟨m, hm⟩ : ∃ m, s.data.length = m := ⟨_, rfl⟩
  have CC := fun W (x : Ext w W) => clone_in (hA.ext x) h1 hl
  rw [hsn]
  rw [hm] at CC ⊢
  have xa := ext_alloc w (.cells #[.string sn, .int .i64 s.ty, .int .i64 s.cl, .int .i64 s.ttl, .slice A m c] 30)
  have ba := Blk.new w 30 #[.string sn, .int .i64 s.ty, .int .i64 s.cl, .int .i64 s.ttl, .slice A m c]
  obtain ⟨wa, hwa⟩ : ∃ wa, w.alloc (.cells #[.string sn, .int .i64 s.ty, .int .i64 s.cl, .int .i64 s.ttl, .slice A m c] 30) = wa := ⟨_, rfl⟩
  obtain ⟨g1, hg1⟩ : ∃ g1, w.heap.size = g1 := ⟨_, rfl⟩
  rw [hwa] at xa ba
  rw [hg1] at ba
  have xb := ext_alloc wa (.cells #[.string ⟨#[]⟩, .int .i64 0, .int .i64 0, .int .i64 0, .slice none 0 0] 30)
  have bb := Blk.new wa 30 #[.string ⟨#[]⟩, .int .i64 0, .int .i64 0, .int .i64 0, .slice none 0 0]
  have ba := ba.ext xb
  obtain ⟨wb, hwb⟩ : ∃ wb, wa.alloc (.cells #[.string ⟨#[]⟩, .int .i64 0, .int .i64 0, .int .i64 0, .slice none 0 0] 30) = wb := ⟨_, rfl⟩
  obtain ⟨g2, hg2⟩ : ∃ g2, wa.heap.size = g2 := ⟨_, rfl⟩
  rw [hwb] at xb ba bb
  rw [hg2] at bb
  have hg3 : w.heap.size + 1 = g2 := by rw [← hg2, ← hwa]; simp
  have HG3 := hid hg3
  clear hg3
  have XX := hid (ext_trans xa xb)
  have BA := hid ba
  have BB := hid bb
  have hgg : g1 < g2 := by have h1 := (Blk.new w 30 #[.string sn, .int .i64 s.ty, .int .i64 s.cl, .int .i64 s.ttl, .slice A m c]).lt; rw [hwa, hg1] at h1; omega
  have hgw : w.heap.size ≤ g1 := by omega
  have a4 := ba.cell 4
  simp at a4
  have CC := hid (CC wb XX.out)
  have HSN := hid hsn
  have HM := hid hm
  have HWA := hid hwa
  have HWB := hid hwb
  have HG1 := hid hg1
  have HG2 := hid hg2
  have i1 : decide (n < 0) = false := by simp; omega
  have i2 : decide (s.ttl < n) = false := by simp; omega
  have i3 : 0 ≤ s.ttl - n ∧ s.ttl - n ≤ 9223372036854775807 := by omega
  clear xa ba xb bb hwa hwb hg1 hg2 hsn hm hA
  go_enter Try.func57, Try.ntmps57
  go_upto_region 1 with (fail)
  rw [HWA.out, HWB.out, HG3.out, HG1.out]
  go_wp2_with fail
  refine CC.out.mono ?_
  rintro e w1 ⟨A1, c1, rfl, o1, x1⟩
  have b1 := BA.out.ext x1
  have bb1 := BB.out.ext x1
  have rf := b1.frozen
  have r0 := b1.cell
  simp at r0
  have b2 := b1.set_ 4 (.slice A1 m c1)
  have s2 := set_shy g1 4 (.slice A1 m c1) w1
  obtain ⟨w2, hw2⟩ : ∃ w2, w1.setCell ⟨g1, 4, none⟩ (.slice A1 m c1) = w2 := ⟨_, rfl⟩
  rw [hw2] at b2 s2
  have b2 : Blk w2 g1 30 #[.string sn, .int .i64 s.ty, .int .i64 s.cl, .int .i64 s.ttl, .slice A1 m c1] := by simpa using b2
  have bb2 := bb1.shy s2 (fun e => by omega)
  have O2 := s2.ownG o1 (fun k hk e => by have := (o1.lt k hk).1; have := BB.out.lt; omega)
  have HW2 := hid hw2
  have B2 := hid b2
  have BB2 := hid bb2
  have O2 := hid O2
  have X1 := hid (ext_trans XX.out x1)
  have S2 := hid s2
  have HSZ : wb.heap.size ≤ w2.heap.size := by have h1 := x1.size; have h2 := s2.size; omega
  have HBB := BB.out.lt
  clear a4 hw2 b1 bb1 b2 bb2 s2 o1 x1 CC
  go_upto_region 3 with (fail)
  rw [HW2.out]
  clear rf r0
  have a3 := B2.out.cell 3
  have af := B2.out.frozen
  have ac := B2.out.cell
  simp at a3 ac
  have b3 := B2.out.set_ 3 (.int .i64 (s.ttl - n))
  have s3 := set_shy g1 3 (.int .i64 (s.ttl - n)) w2
  obtain ⟨w3, hw3⟩ : ∃ w3, w2.setCell ⟨g1, 3, none⟩ (.int .i64 (s.ttl - n)) = w3 := ⟨_, rfl⟩
  rw [hw3] at b3 s3
  have b3 : Blk w3 g1 30 #[.string sn, .int .i64 s.ty, .int .i64 s.cl, .int .i64 (s.ttl - n), .slice A1 m c1] := by simpa using b3
  have BB3 := hid (BB2.out.shy s3 (fun e => by omega))
  have O3 := hid (s3.ownG O2.out (fun k hk e => by have := (O2.out.lt k hk).1; omega))
  have B3 := hid b3
  have HW3 := hid hw3
  have S3 : Hid (Shy (fun k => k = g1 ∨ k = g2) w w3) := hid (((Shy.of_ext X1.out).trans S2.out (fun k _ e => .inl e)).trans s3 (fun k _ e => .inl e))
  clear hw3 b3 s3
  go_upto_region 6 with (fail)
  rw [HW3.out]
  clear a3 af ac
  have l0 := B3.out.cell 0
  have l1 := B3.out.cell 1
  have l2 := B3.out.cell 2
  have l3 := B3.out.cell 3
  have l4 := B3.out.cell 4
  simp at l0 l1 l2 l3 l4
  have r0 := BB3.out.cell
  have rf := BB3.out.frozen
  go_wp2_with fail
  refine bodyPost_ret (v := .agg #[.string sn, .int .i64 s.ty, .int .i64 s.cl, .int .i64 (s.ttl - n), .slice A1 m c1]) (by simp [results, Try.results57, go_sem, r0]) rfl ?_
  have sh : Shy (fun k => k = g2) w3 (((((w3.setCell ⟨g2, 0, none⟩ (.string sn)).setCell ⟨g2, 1, none⟩ (.int .i64 s.ty)).setCell ⟨g2, 2, none⟩ (.int .i64 s.cl)).setCell ⟨g2, 3, none⟩ (.int .i64 (s.ttl - n))).setCell ⟨g2, 4, none⟩ (.slice A1 m c1)) := (((((Shy.refl (U := fun k => k = g2) w3).set (b := g2) (fun _ => rfl) 0 _).set (b := g2) (fun _ => rfl) 1 _).set (b := g2) (fun _ => rfl) 2 _).set (b := g2) (fun _ => rfl) 3 _).set (b := g2) (fun _ => rfl) 4 _
  have hxx := XX.out.size
  refine ⟨A1, c1, by rw [HSN.out, HM.out], ?_, ?_⟩
  · rw [HM.out]
    exact (sh.ownG O3.out (fun k hk e => by have := (O3.out.lt k hk).1; omega)).mono hxx
  · exact (S3.out.trans sh (fun k _ e => .inr e)).below (Nat.le_refl _) (fun k hk e => by omega)
end Go.Proofs.Ytcddfenhkljpeaa

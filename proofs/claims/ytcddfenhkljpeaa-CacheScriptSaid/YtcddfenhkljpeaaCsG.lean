import Derived.Test.YtcddfenhkljpeaaCsF
import Derived.Test.YtcddfenhkljpeaaChcBl
import Derived.Test.YtcddfenhkljpeaaChcX
import Derived.Test.YtcddfenhkljpeaaChcJ
import Derived.Test.YtcddfenhkljpeaaCsA
import Derived.Test.YtcddfenhkljpeaaChcO
/- Layer 23: Get of both, side by side (the document's). -/
namespace Go.Proofs.Ytcddfenhkljpeaa
open Go.BK Go.BK.CH Go.BK.NM Go.RowKit Go.Maps
set_option linter.unusedVariables false
set_option linter.unusedSimpArgs false
theorem r_get {V : Nat → Prop} {w : World} {g : Nat} {most : Int} {s : StC} (h : RsV V w g most s) (hst : StOk most s) {n : List UInt8} {kind rank at_ : Int} (hn : n.length ≤ 2000000) :
    Calls Try.prog 23 #[pt g, .string (str n), .int .i64 kind, .int .i64 rank, .int .i64 at_] w fun e w' => RgD V w w' g most (getG s n kind rank at_).1 (getG s n kind rank at_).2 e := by
  obtain ⟨now, L⟩ := s
  obtain ⟨A0, c0, T, h1, rfl, hv⟩ := h
  by_cases hb : getBad n at_
  · have eg : getG ⟨now, T.map (·.e)⟩ n kind rank at_ = (⟨now, T.map (·.e)⟩, ⟨0, zeroS, 0⟩) := by unfold getG; rw [if_pos hb]
    rw [eg]
    by_cases b1 : checkS n = 0
    rotate_left
    · exact rget_bad1 h1 hv hn b1
    · refine rget_bad2 h1 hv hn b1 (fun b2 => ?_)
      rcases hb with e | e
      · exact e b1
      · exact e b2
  · have eg : getG ⟨now, T.map (·.e)⟩ n kind rank at_ = getS ⟨now, T.map (·.e)⟩ n kind rank at_ := by unfold getG; rw [if_neg hb]
    rw [eg]
    have hb2 : checkS n = 0 ∧ inTime at_ := by
      unfold getBad at hb
      simp only [not_or, Classical.not_not, ne_eq] at hb
      exact hb
    exact rget_good h1 hv hn hb2.1 hb2.2 hst
theorem d_rget {l : List Nat} {base : Nat} {w : World} {gc gw : Nat} {most : Int} {t : StC} {n : List UInt8} {kind rank at_ : Int} (d : DuoL l base w gc gw most (getG t n kind rank at_).1 t) (hb : base ≤ w.heap.size) (hl : ∀ k ∈ l, k < w.heap.size) (hn : n.length ≤ 2000000) :
    Calls Try.prog 23 #[pt gw, .string (str n), .int .i64 kind, .int .i64 rank, .int .i64 at_] w fun e w' => RgL l base w w' gc gw most (getG t n kind rank at_).1 (getG t n kind rank at_).1 (getG t n kind rank at_).2 e := by
  obtain ⟨U, V, h1, h2, h3, h4, h5⟩ := d
  refine (r_get h2 h3 hn).mono ?_
  rintro e w' ⟨A, c, rfl, ra, r, x⟩
  have dd := duo_r hb hl h1 h4 h5 h2 r x
  exact ⟨A, c, rfl, ra, dd.1, dd.2⟩
end Go.Proofs.Ytcddfenhkljpeaa
/- Layer 23: who is none; two things that are found. -/
namespace Go.Proofs.Ytcddfenhkljpeaa
open Go.BK Go.BK.CH Go.BK.NM Go.RowKit Go.Maps
set_option linter.unusedVariables false
set_option linter.unusedSimpArgs false
/-- A cache that is none, or that New did not make. -/
def AbsV (w : World) (v : Value) : Prop := ∀ W, Ext w W → Calls Try.prog 33 #[v] W fun e w' => e = .returned (.bool true) ∧ W = w'
theorem absV_nil (w : World) : AbsV w (.pointer none) := fun W _ => absent_nil W
theorem absV_zero {w : World} {g : Nat} (h : ZeroC w g) : AbsV w (.pointer (some ⟨g, 0, none⟩)) := fun W x => absent_zero (g := g) (Blk.ext h x)
theorem AbsV.ext {w w' : World} {v : Value} (h : AbsV w v) (x : Ext w w') : AbsV w' v := fun W y => h W (ext_trans x y)
set_option maxHeartbeats 2000000 in
set_option maxRecDepth 100000 in
theorem putset_abs {w : World} {v : Value} (h : AbsV w v) (s : SetS) (A : Option Addr) (d : Nat) (rank at_ : Int) :
    Calls Try.prog 14 #[v, .agg #[.string (str s.nm), .int .i64 s.ty, .int .i64 s.cl, .int .i64 s.ttl, .slice A s.data.length d], .int .i64 rank, .int .i64 at_] w fun e w' => e = .returned (.tuple #[.bool false, .int .i64 1]) ∧ Ext w w' := by
  obtain ⟨sn, hsn⟩ : ∃ sn, str s.nm = sn := ⟨_, rfl⟩
  obtain ⟨n, hn⟩ : ∃ n, s.data.length = n := ⟨_, rfl⟩
  rw [hsn, hn]
  have C := hid h
  clear h hsn hn
  go_enter Try.func14, Try.ntmps14
  go_wp2_with fail
  refine (C.out _ (ext_alloc _ _)).mono ?_
  rintro e _ ⟨rfl, rfl⟩
  go_wp2_with fail
  go_ret2
  exact ⟨rfl, ext_alloc _ _⟩
set_option maxHeartbeats 2000000 in
set_option maxRecDepth 100000 in
theorem putnone_abs {w : World} {v : Value} (h : AbsV w v) (n : ByteArray) (kind ttl at_ : Int) :
    Calls Try.prog 17 #[v, .string n, .int .i64 kind, .int .i64 ttl, .int .i64 at_] w fun e w' => e = .returned (.tuple #[.bool false, .int .i64 1]) ∧ Ext w w' := by
  have C := hid h
  clear h
  go_enter Try.func17, Try.ntmps17
  go_wp2_with fail
  refine (C.out _ (ext_refl _)).mono ?_
  rintro e _ ⟨rfl, rfl⟩
  go_wp2_with fail
  go_ret2
  exact ⟨rfl, ext_refl _⟩
set_option maxHeartbeats 2000000 in
set_option maxRecDepth 100000 in
theorem get_abs {w : World} {v : Value} (h : AbsV w v) (n : ByteArray) (kind rank at_ : Int) :
    Calls Try.prog 15 #[v, .string n, .int .i64 kind, .int .i64 rank, .int .i64 at_] w fun e w' => e = .returned (.agg #[.int .i64 0, .string ⟨#[]⟩, .int .i64 0, .int .i64 0, .int .i64 0, .slice none 0 0, .int .i64 0]) ∧ Ext w w' := by
  have C := hid h
  clear h
  have xa := ext_alloc w (.cells #[.int .i64 0, .string ⟨#[]⟩, .int .i64 0, .int .i64 0, .int .i64 0, .slice none 0 0, .int .i64 0] 37)
  have bf := Blk.new w 37 #[.int .i64 0, .string ⟨#[]⟩, .int .i64 0, .int .i64 0, .int .i64 0, .slice none 0 0, .int .i64 0]
  obtain ⟨wa, hwa⟩ : ∃ wa, w.alloc (.cells #[.int .i64 0, .string ⟨#[]⟩, .int .i64 0, .int .i64 0, .int .i64 0, .slice none 0 0, .int .i64 0] 37) = wa := ⟨_, rfl⟩
  obtain ⟨gF, hgF⟩ : ∃ gF, w.heap.size = gF := ⟨_, rfl⟩
  rw [hwa] at xa bf
  rw [hgF] at bf
  have XA := hid xa
  have HWA := hid hwa
  have HGF := hid hgF
  have BF := hid bf
  clear xa bf hwa hgF
  go_enter Try.func15, Try.ntmps15
  go_upto_region 1 with (fail)
  rw [HWA.out, HGF.out]
  go_wp2_with fail
  refine (C.out _ XA.out).mono ?_
  rintro e _ ⟨rfl, rfl⟩
  have r0 := BF.out.cell
  have rf := BF.out.frozen
  go_wp2_with fail
  refine bodyPost_ret (v := .agg #[.int .i64 0, .string ⟨#[]⟩, .int .i64 0, .int .i64 0, .int .i64 0, .slice none 0 0, .int .i64 0]) (by simp [results, Try.results15, go_sem, r0]) rfl ?_
  refine ⟨rfl, ?_⟩
  have sh9 : Shy (fun k => k = gF) wa (((((((wa.setCell ⟨gF, 0, none⟩ (.int .i64 0)).setCell ⟨gF, 1, none⟩ (.string ⟨#[]⟩)).setCell ⟨gF, 2, none⟩ (.int .i64 0)).setCell ⟨gF, 3, none⟩ (.int .i64 0)).setCell ⟨gF, 4, none⟩ (.int .i64 0)).setCell ⟨gF, 5, none⟩ (.slice none 0 0)).setCell ⟨gF, 6, none⟩ (.int .i64 0)) := (((((((Shy.refl (U := fun k => k = gF) wa).set (b := gF) (fun _ => rfl) 0 _).set (b := gF) (fun _ => rfl) 1 _).set (b := gF) (fun _ => rfl) 2 _).set (b := gF) (fun _ => rfl) 3 _).set (b := gF) (fun _ => rfl) 4 _).set (b := gF) (fun _ => rfl) 5 _).set (b := gF) (fun _ => rfl) 6 _
  exact ((Shy.of_ext XA.out).trans sh9 (fun j hj e => e)).below (Nat.le_refl _) (fun j hj e => by have := HGF.out; omega)
set_option maxHeartbeats 2000000 in
set_option maxRecDepth 100000 in
theorem sweep_abs {w : World} {v : Value} (h : AbsV w v) (at_ : Int) :
    Calls Try.prog 25 #[v, .int .i64 at_] w fun e w' => e = .returned (.int .i64 0) ∧ Ext w w' := by
  have C := hid h
  clear h
  go_enter Try.func25, Try.ntmps25
  go_wp2_with fail
  refine (C.out _ (ext_refl _)).mono ?_
  rintro e _ ⟨rfl, rfl⟩
  go_wp2_with fail
  go_ret
  exact ⟨rfl, ext_refl _⟩
set_option maxHeartbeats 2000000 in
set_option maxRecDepth 100000 in
theorem len_abs {w : World} {v : Value} (h : AbsV w v) :
    Calls Try.prog 18 #[v] w fun e w' => e = .returned (.int .i64 0) ∧ Ext w w' := by
  have C := hid h
  clear h
  go_enter Try.func18, Try.ntmps18
  go_wp2_with fail
  refine (C.out _ (ext_refl _)).mono ?_
  rintro e _ ⟨rfl, rfl⟩
  go_wp2_with fail
  go_ret
  exact ⟨rfl, ext_refl _⟩
set_option maxHeartbeats 2000000 in
set_option maxRecDepth 100000 in
theorem has_abs {w : World} {v : Value} (h : AbsV w v) (n : ByteArray) (kind : Int) :
    Calls Try.prog 19 #[v, .string n, .int .i64 kind] w fun e w' => e = .returned (.bool false) ∧ Ext w w' := by
  have C := hid h
  clear h
  go_enter Try.func19, Try.ntmps19
  go_wp2_with fail
  refine (C.out _ (ext_refl _)).mono ?_
  rintro e _ ⟨rfl, rfl⟩
  go_wp2_with fail
  go_ret
  exact ⟨rfl, ext_refl _⟩
def fndV (k : Int) (n : ByteArray) (ty cl ttl : Int) (A : Option Addr) (m c : Nat) (l : Int) : Value := .agg #[.int .i64 k, .string n, .int .i64 ty, .int .i64 cl, .int .i64 ttl, .slice A m c, .int .i64 l]
set_option maxHeartbeats 2000000 in
set_option maxRecDepth 100000 in
theorem same_found {w : World} {k l : Int} {s : SetS} {A B : Option Addr} {ca cb : Nat} (ha : RdG w 1 A s.data.length ca (tvs s.data)) (hb : RdG w 1 B s.data.length cb (tvs s.data)) (h9 : s.data.length ≤ 1000000) :
    Calls Try.prog 24 #[fndV k (str s.nm) s.ty s.cl s.ttl A s.data.length ca l, fndV k (str s.nm) s.ty s.cl s.ttl B s.data.length cb l] w fun e w' => e = .returned (.bool true) ∧ Ext w w' := by
  have CS := fun W (x : Ext w W) => same_set (ha.ext x) (hb.ext x) h9
  obtain ⟨sn, hsn⟩ : ∃ sn, str s.nm = sn := ⟨_, rfl⟩
  obtain ⟨n, hn⟩ : ∃ n, s.data.length = n := ⟨_, rfl⟩
  rw [hsn, hn] at CS ⊢
  unfold fndV
  have CS := hid CS
  clear ha hb h9 hsn hn
  have xa := ext_alloc w (.cells #[.int .i64 k, .string sn, .int .i64 s.ty, .int .i64 s.cl, .int .i64 s.ttl, .slice A n ca, .int .i64 l] 37)
  have ba := Blk.new w 37 #[.int .i64 k, .string sn, .int .i64 s.ty, .int .i64 s.cl, .int .i64 s.ttl, .slice A n ca, .int .i64 l]
  obtain ⟨wa, hwa⟩ : ∃ wa, w.alloc (.cells #[.int .i64 k, .string sn, .int .i64 s.ty, .int .i64 s.cl, .int .i64 s.ttl, .slice A n ca, .int .i64 l] 37) = wa := ⟨_, rfl⟩
  obtain ⟨g1, hg1⟩ : ∃ g1, w.heap.size = g1 := ⟨_, rfl⟩
  rw [hwa] at xa ba
  rw [hg1] at ba
  have xb := ext_alloc wa (.cells #[.int .i64 k, .string sn, .int .i64 s.ty, .int .i64 s.cl, .int .i64 s.ttl, .slice B n cb, .int .i64 l] 37)
  have bb := Blk.new wa 37 #[.int .i64 k, .string sn, .int .i64 s.ty, .int .i64 s.cl, .int .i64 s.ttl, .slice B n cb, .int .i64 l]
  have ba := ba.ext xb
  obtain ⟨wb, hwb⟩ : ∃ wb, wa.alloc (.cells #[.int .i64 k, .string sn, .int .i64 s.ty, .int .i64 s.cl, .int .i64 s.ttl, .slice B n cb, .int .i64 l] 37) = wb := ⟨_, rfl⟩
  obtain ⟨g2, hg2⟩ : ∃ g2, wa.heap.size = g2 := ⟨_, rfl⟩
  rw [hwb] at xb ba bb
  rw [hg2] at bb
  have XX := hid (ext_trans xa xb)
  have C := hid (CS.out wb XX.out)
  have a0 := ba.cell 0
  have a1 := ba.cell 1
  have a2 := ba.cell 2
  have a3 := ba.cell 3
  have a4 := ba.cell 4
  have a5 := ba.cell 5
  have a6 := ba.cell 6
  have b0 := bb.cell 0
  have b1 := bb.cell 1
  have b2 := bb.cell 2
  have b3 := bb.cell 3
  have b4 := bb.cell 4
  have b5 := bb.cell 5
  have b6 := bb.cell 6
  simp at a0 a1 a2 a3 a4 a5 a6 b0 b1 b2 b3 b4 b5 b6
  clear xa xb ba bb CS
  go_enter Try.func24, Try.ntmps24
  go_upto_region 1 with (fail)
  go_wp2_with fail
  refine C.out.mono ?_
  rintro e w2 ⟨rfl, x2⟩
  go_wp2_with fail
  go_ret
  exact ⟨rfl, ext_trans XX.out x2⟩
end Go.Proofs.Ytcddfenhkljpeaa
/- A part of the contracts of the small functions that the statements share. -/
namespace Go.Proofs.Ytcddfenhkljpeaa
open Go.BK Go.RowKit
set_option linter.unusedVariables false

/-- Pick: a number from 0 on, below n. -/
def pick (x n : Int) : Int := if n < 1 then 0 else x % n
theorem pick_range (x n : Int) (h : 1 ≤ n) : 0 ≤ pick x n ∧ pick x n < n := by
  unfold pick
  rw [if_neg (by omega)]
  exact ⟨Int.emod_nonneg _ (by omega), Int.emod_lt_of_pos _ (by omega)⟩
set_option maxHeartbeats 400000 in
theorem pick_any (x n : Int) (w : World) (hx : -9223372036854775808 ≤ x ∧ x ≤ 9223372036854775807) (hn : n ≤ 9223372036854775807) :
    Calls Try.prog 13 #[.int .i64 x, .int .i64 n] w fun e w' => e = .returned (.int .i64 (pick x n)) ∧ w = w' := by
  by_cases h1 : n < 1
  · go_enter Try.func13, Try.ntmps13
    go_wp2
    go_ret
    exact ⟨ret_int (by unfold pick; rw [if_pos (by omega)]), rfl⟩
  · have hn0 : ¬ n = 0 := by omega
    have e1 : x % n = if x.tmod n < 0 then x.tmod n + n else x.tmod n := by
      rcases Int.lt_or_le x 0 with hx0 | hx0
      · have h2 := Int.tmod_eq_emod (a := x) (b := n)
        have h3 := Int.emod_nonneg x hn0
        have h4 := Int.emod_lt_of_pos x (show 0 < n by omega)
        rw [h2]
        split <;> split <;> omega
      · rw [Int.tmod_eq_emod_of_nonneg hx0]
        have h3 := Int.emod_nonneg x hn0
        rw [if_neg (by omega)]
    have hb : -n < x.tmod n ∧ x.tmod n < n := by
      have h2 := Int.tmod_eq_emod (a := x) (b := n)
      have h3 := Int.emod_nonneg x hn0
      have h4 := Int.emod_lt_of_pos x (show 0 < n by omega)
      have h5 : (n.natAbs : Int) = n := by omega
      rw [h2]
      split <;> omega
    obtain ⟨hb1, hb2⟩ := hb
    have hq : ¬ (x = -9223372036854775808 ∧ n = -1) := by omega
    have E1 := hid e1
    clear e1
    by_cases h2 : x.tmod n < 0
    · go_enter Try.func13, Try.ntmps13
      go_wp2
      go_ret
      exact ⟨ret_int (by unfold pick; rw [if_neg (by omega), E1.out, if_pos h2]), rfl⟩
    · go_enter Try.func13, Try.ntmps13
      go_wp2
      go_ret
      exact ⟨ret_int (by unfold pick; rw [if_neg (by omega), E1.out, if_neg (by omega)]), rfl⟩

end Go.Proofs.Ytcddfenhkljpeaa
/- Layer 23: both caches side by side, with the rows they must leave alone. -/
namespace Go.Proofs.Ytcddfenhkljpeaa
open Go.BK Go.BK.CH Go.BK.NM Go.RowKit Go.Maps
set_option linter.unusedVariables false
set_option linter.unusedSimpArgs false
theorem ext_shy2 {w0 w w' : World} {U : Nat → Prop} (x : Ext w0 w) (e : Shy U w w') (h : ∀ k, U k → w0.heap.size ≤ k) : Ext w0 w' :=
  ((Shy.of_ext (U := fun k => w0.heap.size ≤ k) x).trans e fun k _ u => h k u).below (Nat.le_refl _) fun k hk e => by omega
def DuoB (w0 : World) (l : List Nat) (base : Nat) (w : World) (gc gw : Nat) (most : Int) (s t : StC) : Prop :=
  DuoL l base w gc gw most s t ∧ Ext w0 w ∧ w0.heap.size ≤ base ∧ base ≤ w.heap.size ∧ ∀ k ∈ l, k < w.heap.size
section
variable {w0 : World} {l l' : List Nat} {base : Nat} {w w' : World} {gc gw : Nat} {most : Int} {s t s' t' : StC}
theorem DuoB.step (d : DuoB w0 l base w gc gw most s t) (dd : DuoL l' base w' gc gw most s' t' ∧ Shy (OutL l base) w w') (hl : ∀ k ∈ l', k < w'.heap.size) : DuoB w0 l' base w' gc gw most s' t' :=
  ⟨dd.1, ext_shy2 d.2.1 dd.2 (fun k u => Nat.le_trans d.2.2.1 u.1), d.2.2.1, Nat.le_trans d.2.2.2.1 dd.2.size, hl⟩
theorem DuoB.keep (d : DuoB w0 l base w gc gw most s t) (dd : DuoL l base w' gc gw most s' t' ∧ Shy (OutL l base) w w') : DuoB w0 l base w' gc gw most s' t' :=
  d.step dd (fun k hk => Nat.lt_of_lt_of_le (d.2.2.2.2 k hk) dd.2.size)
theorem DuoB.ext (d : DuoB w0 l base w gc gw most s t) (x : Ext w w') : DuoB w0 l base w' gc gw most s t :=
  ⟨d.1.ext x (fun k h => .inl h), ext_trans d.2.1 x, d.2.2.1, Nat.le_trans d.2.2.2.1 x.size, fun k hk => Nat.lt_of_lt_of_le (d.2.2.2.2 k hk) x.size⟩
theorem DuoB.less (d : DuoB w0 l base w gc gw most s t) (h : ∀ k ∈ l', k ∈ l) : DuoB w0 l' base w gc gw most s t :=
  ⟨d.1.ext (ext_refl _) (fun k hk => .inl (h k hk)), d.2.1, d.2.2.1, d.2.2.2.1, fun k hk => d.2.2.2.2 k (h k hk)⟩
theorem DuoB.alloc (d : DuoB w0 l base w gc gw most s t) (o : Obj) {w' : World} {g : Nat} (hw : w.alloc o = w') (hg : w.heap.size = g) : DuoB w0 (g :: l) base w' gc gw most s t := by
  subst hw hg
  have x := ext_alloc w o
  refine ⟨d.1.ext x (fun k h => ?_), ext_trans d.2.1 x, d.2.2.1, Nat.le_trans d.2.2.2.1 x.size, fun k hk => ?_⟩
  · rcases List.mem_cons.1 h with rfl | h
    · exact .inr (Nat.le_refl _)
    · exact .inl h
  · rcases List.mem_cons.1 hk with rfl | h
    · simp
    · exact Nat.lt_of_lt_of_le (d.2.2.2.2 k h) x.size
/-- What is new and told is nobody's. -/
theorem DuoB.more (d : DuoB w0 l base w gc gw most s t) {w' : World} (x : Ext w w') {A : Option Addr} (hA : ∀ k, blk A = some k → w.heap.size ≤ k ∧ k < w'.heap.size) : DuoB w0 ((blk A).toList ++ l) base w' gc gw most s t := by
  refine ⟨d.1.ext x (fun k h => ?_), ext_trans d.2.1 x, d.2.2.1, Nat.le_trans d.2.2.2.1 x.size, fun k hk => ?_⟩
  · rcases List.mem_append.1 h with h | h
    · exact .inr (hA k (by simpa using h)).1
    · exact .inl h
  · rcases List.mem_append.1 hk with h | h
    · exact (hA k (by simpa using h)).2
    · exact Nat.lt_of_lt_of_le (d.2.2.2.2 k h) x.size
theorem DuoB.off (d : DuoB w0 l base w gc gw most s t) {W : Nat → Prop} (x : Shy W w w') (hW : ∀ k, W k → k ∈ l) (hB : ∀ k, W k → base ≤ k) : DuoB w0 l base w' gc gw most s t :=
  ⟨d.1.off x (fun k _ h => hW k h), ext_shy2 d.2.1 x (fun k u => Nat.le_trans d.2.2.1 (hB k u)), d.2.2.1, Nat.le_trans d.2.2.2.1 x.size, fun k hk => Nat.lt_of_lt_of_le (d.2.2.2.2 k hk) x.size⟩
theorem blk_out {g : Nat} {T : TypeId} {cs : Array Value} (h : Blk w g T cs) (x : Shy (OutL l base) w w') (hg : g ∈ l) : Blk w' g T cs := h.shy x (fun u => u.2 hg)
theorem b_cput (d : DuoB w0 l base w gc gw most s t) {x : SetS} {A : Option Addr} {c : Nat} (hA : RdG w 1 A x.data.length c (tvs x.data)) (hn : x.nm.length ≤ 2000000) (hd : ∀ d ∈ x.data, d.length ≤ 65535) {rank at_ : Int} (hAb : 1 ≤ x.data.length → ∀ k, blk A = some k → k < base ∨ k ∈ l) :
    Calls Try.prog 14 #[pt gc, .agg #[.string (str x.nm), .int .i64 x.ty, .int .i64 x.cl, .int .i64 x.ttl, .slice A x.data.length c], .int .i64 rank, .int .i64 at_] w fun e w' =>
      e = .returned (.tuple #[.bool (putG most s x rank at_).2.1, .int .i64 (putG most s x rank at_).2.2]) ∧ DuoB w0 l base w' gc gw most (putG most s x rank at_).1 t ∧ Shy (OutL l base) w w' := by
  refine (d_cput d.1 d.2.2.2.1 d.2.2.2.2 hA hn hd hAb).mono ?_
  rintro e w' ⟨rfl, dd, x⟩
  exact ⟨rfl, d.keep ⟨dd, x⟩, x⟩
theorem b_cnone (d : DuoB w0 l base w gc gw most s t) {n : List UInt8} {kind ttl at_ : Int} (hn : n.length ≤ 2000000) :
    Calls Try.prog 17 #[pt gc, .string (str n), .int .i64 kind, .int .i64 ttl, .int .i64 at_] w fun e w' =>
      e = .returned (.tuple #[.bool (noneG most s n kind ttl at_).2.1, .int .i64 (noneG most s n kind ttl at_).2.2]) ∧ DuoB w0 l base w' gc gw most (noneG most s n kind ttl at_).1 t ∧ Shy (OutL l base) w w' := by
  refine (d_cnone d.1 d.2.2.2.1 d.2.2.2.2 hn).mono ?_
  rintro e w' ⟨rfl, dd, x⟩
  exact ⟨rfl, d.keep ⟨dd, x⟩, x⟩
theorem b_csweep (d : DuoB w0 l base w gc gw most s t) (at_ : Int) :
    Calls Try.prog 25 #[pt gc, .int .i64 at_] w fun e w' => e = .returned (.int .i64 ((sweepG s at_).2 : Nat)) ∧ DuoB w0 l base w' gc gw most (sweepG s at_).1 t ∧ Shy (OutL l base) w w' := by
  refine (d_csweep d.1 at_).mono ?_
  rintro e w' ⟨rfl, dd, x⟩
  exact ⟨rfl, d.keep ⟨dd, x⟩, x⟩
theorem b_rput {x : SetS} {rank at_ : Int} (d : DuoB w0 l base w gc gw most (putG most t x rank at_).1 t) {A : Option Addr} {c : Nat} (hA : RdG w 1 A x.data.length c (tvs x.data)) (hn : x.nm.length ≤ 2000000) (hd : ∀ d ∈ x.data, d.length ≤ 65535) (hAb : 1 ≤ x.data.length → ∀ k, blk A = some k → k < base ∨ k ∈ l) :
    Calls Try.prog 27 #[pt gw, .agg #[.string (str x.nm), .int .i64 x.ty, .int .i64 x.cl, .int .i64 x.ttl, .slice A x.data.length c], .int .i64 rank, .int .i64 at_] w fun e w' =>
      e = .returned (.tuple #[.bool (putG most t x rank at_).2.1, .int .i64 (putG most t x rank at_).2.2]) ∧ DuoB w0 l base w' gc gw most (putG most t x rank at_).1 (putG most t x rank at_).1 ∧ Shy (OutL l base) w w' := by
  refine (d_rput d.1 d.2.2.2.1 d.2.2.2.2 hA hn hd hAb).mono ?_
  rintro e w' ⟨rfl, dd, x⟩
  exact ⟨rfl, d.keep ⟨dd, x⟩, x⟩
theorem b_rnone {n : List UInt8} {kind ttl at_ : Int} (d : DuoB w0 l base w gc gw most (noneG most t n kind ttl at_).1 t) (hn : n.length ≤ 2000000) :
    Calls Try.prog 22 #[pt gw, .string (str n), .int .i64 kind, .int .i64 ttl, .int .i64 at_] w fun e w' =>
      e = .returned (.tuple #[.bool (noneG most t n kind ttl at_).2.1, .int .i64 (noneG most t n kind ttl at_).2.2]) ∧ DuoB w0 l base w' gc gw most (noneG most t n kind ttl at_).1 (noneG most t n kind ttl at_).1 ∧ Shy (OutL l base) w w' := by
  refine (d_rnone d.1 d.2.2.2.1 d.2.2.2.2 hn).mono ?_
  rintro e w' ⟨rfl, dd, x⟩
  exact ⟨rfl, d.keep ⟨dd, x⟩, x⟩
theorem b_rsweep {at_ : Int} (d : DuoB w0 l base w gc gw most (sweepG t at_).1 t) :
    Calls Try.prog 26 #[pt gw, .int .i64 at_] w fun e w' => e = .returned (.int .i64 ((sweepG t at_).2 : Nat)) ∧ DuoB w0 l base w' gc gw most (sweepG t at_).1 (sweepG t at_).1 ∧ Shy (OutL l base) w w' := by
  refine (d_rsweep d.1 d.2.2.2.1 d.2.2.2.2).mono ?_
  rintro e w' ⟨rfl, dd, x⟩
  exact ⟨rfl, d.keep ⟨dd, x⟩, x⟩
def BcG (w0 : World) (l : List Nat) (base : Nat) (w w' : World) (gc gw : Nat) (most : Int) (s t : StC) (f : FoundS) (e : Ending) : Prop :=
  ∃ A c, e = .returned (foundV f A c) ∧ OwnG isT w' base 9 1 A f.s.data.length c (tvs f.s.data) ∧ DuoB w0 ((blk A).toList ++ l) base w' gc gw most s t ∧ Shy (OutL l base) w w'
theorem b_cget (d : DuoB w0 l base w gc gw most s t) {n : List UInt8} {kind rank at_ : Int} (hn : n.length ≤ 2000000) (hki : -9223372036854775808 ≤ kind ∧ kind ≤ 9223372036854775807) :
    Calls Try.prog 15 #[pt gc, .string (str n), .int .i64 kind, .int .i64 rank, .int .i64 at_] w fun e w' => BcG w0 l base w w' gc gw most (getG s n kind rank at_).1 t (getG s n kind rank at_).2 e := by
  refine (d_cget d.1 hn hki).mono ?_
  rintro e w' ⟨A, c, rfl, o, dd, x⟩
  refine ⟨A, c, rfl, o.mono d.2.2.2.1, d.step ⟨dd, x⟩ (fun k hk => ?_), x⟩
  rcases List.mem_append.1 hk with h | h
  · exact (o.lt k (by simpa using h)).2
  · exact Nat.lt_of_lt_of_le (d.2.2.2.2 k h) x.size
def BrG (w0 : World) (l : List Nat) (base : Nat) (w w' : World) (gc gw : Nat) (most : Int) (s t : StC) (f : FoundS) (e : Ending) : Prop :=
  ∃ A c, e = .returned (foundV f A c) ∧ OwnG isT w' base 9 1 A f.s.data.length c (tvs f.s.data) ∧ DuoB w0 l base w' gc gw most s t ∧ Shy (OutL l base) w w'
theorem b_rget {n : List UInt8} {kind rank at_ : Int} (d : DuoB w0 l base w gc gw most (getG t n kind rank at_).1 t) (hn : n.length ≤ 2000000) :
    Calls Try.prog 23 #[pt gw, .string (str n), .int .i64 kind, .int .i64 rank, .int .i64 at_] w fun e w' => BrG w0 l base w w' gc gw most (getG t n kind rank at_).1 (getG t n kind rank at_).1 (getG t n kind rank at_).2 e := by
  refine (d_rget d.1 d.2.2.2.1 d.2.2.2.2 hn).mono ?_
  rintro e w' ⟨A, c, rfl, ra, dd, x⟩
  exact ⟨A, c, rfl, ra.mono d.2.2.2.1, d.keep ⟨dd, x⟩, x⟩
/-- A slice of texts that is nobody's, while it is written over. -/
def OvRel (w5 : World) (base : Nat) (A : Option Addr) (n c : Nat) (iv : Value) (wr : World) : Prop :=
  ∃ (j : Nat) (xs : List Value), j ≤ n ∧ iv = .int .i64 j ∧ OwnG isT wr base 9 1 A n c xs ∧ Shy (fun k => blk A = some k) w5 wr
end
theorem blk_apart {w : World} {g g' : Nat} {T T' : TypeId} {cs cs' : Array Value} (h : Blk w g T cs) (h' : Blk w g' T' cs') (ht : T ≠ T') : g ≠ g' := by
  intro e
  subst e
  unfold Blk at h h'
  rw [h] at h'
  have := Option.some.inj h'
  injection this with _ e2 _
  exact ht e2
theorem own_apart {ok : Value → Prop} {w : World} {base size n c g : Nat} {T T' : TypeId} {A : Option Addr} {xs : List Value} {cs : Array Value} (h : OwnG ok w base T size A n c xs) (h' : Blk w g T' cs) (ht : T ≠ T') : ∀ k, blk A = some k → ¬ k = g := by
  intro k hk e
  subst e
  rcases h with ⟨rfl, _⟩ | ⟨g0, full, rfl, _, hg, _⟩
  · cases hk
  · obtain rfl := Option.some.inj hk
    unfold Blk at h'
    rw [hg] at h'
    have := Option.some.inj h'
    injection this with _ e2 _
    exact ht e2
theorem small_of {M : List Am} (h : longL M = false) : M.length ≤ 80 ∧ ∀ m ∈ M, m.a.nm.length ≤ 2000 ∧ m.a.s.nm.length ≤ 2000 ∧ m.a.s.data.length ≤ 70 ∧ ∀ d ∈ m.a.s.data, d.length ≤ 2000 := by
  unfold longL at h
  rw [Bool.or_eq_false_iff] at h
  refine ⟨by have := h.2; simp at this; omega, fun m hm => ?_⟩
  have h1 := List.any_eq_false.1 h.1 m hm
  unfold longA longSet at h1
  simp only [Bool.or_eq_true, decide_eq_true_eq, not_or] at h1
  obtain ⟨⟨h2, h3⟩, h4⟩ := h1
  refine ⟨by omega, by omega, by omega, fun d hd => ?_⟩
  have h5 : d.length ≤ (m.a.s.data.map List.length).sum := by
    clear h2 h3 h4 hm
    generalize m.a.s.data = L at hd
    induction L with
    | nil => cases hd
    | cons a L ih =>
      rw [List.map_cons, List.sum_cons]
      rcases List.mem_cons.1 hd with rfl | hd
      · omega
      · have := ih hd; omega
  omega
end Go.Proofs.Ytcddfenhkljpeaa

/- Layer 23: was what is found put? (Printed by gen_chcah.py.) -/
import Derived.Test.YtcddfenhkljpeaaChcAg
import Derived.Test.YtcddfenhkljpeaaChcN
namespace Go.Proofs.Ytcddfenhkljpeaa
open Go.BK Go.BK.CH Go.BK.NM Go.RowKit Go.Maps
set_option linter.unusedVariables false
set_option linter.unusedSimpArgs false
def cellsP (m : Pm) : List Value := [.string (str m.p.nm), .int .i64 m.p.kind, .string (str m.p.s.nm), .int .i64 m.p.s.ty, .int .i64 m.p.s.cl, .int .i64 m.p.s.ttl, .slice m.A m.p.s.data.length m.d, .bool m.p.is, .int .i64 m.p.ttl, .int .i64 m.p.rank, .int .i64 m.p.now]
def cellsPM (M : List Pm) : List Value := M.flatMap cellsP
def pm0 : Pm := ⟨⟨[], 0, ⟨[], 0, 0, 0, []⟩, false, 0, 0, 0⟩, none, 0⟩
theorem cellsPM_len (M : List Pm) : (cellsPM M).length = M.length * 11 := by
  induction M with
  | nil => rfl
  | cons m M ih =>
    have : cellsPM (m :: M) = cellsP m ++ cellsPM M := by simp [cellsPM]
    rw [this, List.length_append, ih]
    simp [cellsP]
    omega
theorem cellsPM_at (M : List Pm) (j i : Nat) (u : Value) (hj : j < M.length) (hu : (cellsP (M.getD j pm0))[i]? = some u) : (cellsPM M)[j * 11 + i]? = some u := by
  induction M generalizing j with
  | nil => simp at hj
  | cons m M ih =>
    have e : cellsPM (m :: M) = cellsP m ++ cellsPM M := by simp [cellsPM]
    have hl : (cellsP m).length = 11 := rfl
    rw [e]
    cases j with
    | zero =>
      have hi : i < 11 := (List.getElem?_eq_some_iff.1 hu).1
      rw [List.getElem?_append_left (by rw [hl]; omega)]
      simpa using hu
    | succ j =>
      rw [List.getElem?_append_right (by rw [hl]; omega), hl, show (j + 1) * 11 + i - 11 = j * 11 + i from by omega]
      exact ih j (by simpa using hj) (by simpa using hu)
/-- What may stand in a list of what was put. -/
structure WfP (p : PutS) : Prop where
  nm : p.nm.length ≤ 2000000
  kind : i64R p.kind
  ttl : 0 ≤ p.ttl ∧ p.ttl ≤ 2147483648
  rank : i64R p.rank
  now : 0 ≤ p.now ∧ p.now ≤ 1099511627776
  sttl : i64R p.s.ttl
def PutsR (w : World) (A : Option Addr) (c : Nat) (M : List Pm) : Prop := RdG w 11 A M.length c (cellsPM M) ∧ ∀ m ∈ M, WfP m.p ∧ RdG w 1 m.A m.p.s.data.length m.d (tvs m.p.s.data)
section
variable {w w' : World} {A : Option Addr} {c : Nat} {M : List Pm}
theorem PutsR.ext (h : PutsR w A c M) (x : Ext w w') : PutsR w' A c M := ⟨h.1.ext x, fun m hm => ⟨(h.2 m hm).1, (h.2 m hm).2.ext x⟩⟩
theorem PutsR.at_ (h : PutsR w A c M) (h0 : 0 < M.length) : ∃ b o, A = some ⟨b, o, none⟩ ∧ b < w.heap.size ∧ ∀ j, j < M.length → ∃ m, m ∈ M ∧ M.getD j pm0 = m ∧ ∀ i u, (cellsP m)[i]? = some u → w.cell? ⟨b, o + j * 11 + i, none⟩ = some u := by
  obtain ⟨b, o, hA, hb, hc⟩ := h.1.2.2.2 h0
  refine ⟨b, o, hA, hb, fun j hj => ⟨M.getD j pm0, by simp [List.getD, hj], rfl, fun i u hu => ?_⟩⟩
  rw [Nat.add_assoc]
  exact hc _ _ (cellsPM_at M j i u hj hu)
end
/-- Is it what was asked for? -/
def hitP (a : ActS) (kd : Int) (p : PutS) : Prop := sameB p.nm a.nm = true ∧ p.kind = kd
instance (a : ActS) (kd : Int) (p : PutS) : Decidable (hitP a kd p) := by unfold hitP; infer_instance
def kindF (f : FoundS) (a : ActS) : Int := if f.kind = 3 then 0 else a.type
/-- What is found is what that says. -/
def ToldP (f : FoundS) (a : ActS) (p : PutS) : Prop :=
  f.left = p.ttl - (a.now - p.now) ∧ 1 ≤ f.left ∧ p.is = decide (f.kind = 1) ∧
  (p.is = true → a.rank ≤ p.rank ∧ (1 ≤ p.s.data.length ∧ p.s.data.length ≤ 1000000) ∧ (0 ≤ a.now - p.now ∧ a.now - p.now ≤ p.s.ttl) ∧ f.s = ⟨p.s.nm, p.s.ty, p.s.cl, p.s.ttl - (a.now - p.now), p.s.data⟩)
def ToldOk (f : FoundS) (M : List Pm) (a : ActS) : Prop :=
  ∃ i, i < M.length ∧ hitP a (kindF f a) (M.getD i pm0).p ∧ (∀ j, i < j → j < M.length → ¬ hitP a (kindF f a) (M.getD j pm0).p) ∧ ToldP f a (M.getD i pm0).p
def ToRel (w0 : World) (i m : Nat) (iv : Value) (wr : World) : Prop := ∃ k : Nat, i ≤ k ∧ k < m ∧ iv = .int .i64 k ∧ Ext w0 wr
set_option maxHeartbeats 8000000 in
set_option maxRecDepth 100000 in
theorem told_none {w : World} {f : FoundS} {Af : Option Addr} {cf : Nat} {A : Option Addr} {c n : Nat} {x : Am} (h0 : f.kind = 0) :
    Calls Try.prog 30 #[foundV f Af cf, .slice A n c, .agg (cellsA x).toArray] w fun e w' => e = .returned (.bool true) ∧ Ext w w' := by
  obtain ⟨fn, hfn⟩ : ∃ fn, str f.s.nm = fn := ⟨_, rfl⟩
  obtain ⟨fl, hfl⟩ : ∃ fl, f.s.data.length = fl := ⟨_, rfl⟩
  obtain ⟨xn, hxn⟩ : ∃ xn, str x.a.nm = xn := ⟨_, rfl⟩
  obtain ⟨xsn, hxsn⟩ : ∃ xsn, str x.a.s.nm = xsn := ⟨_, rfl⟩
  obtain ⟨xl, hxl⟩ : ∃ xl, x.a.s.data.length = xl := ⟨_, rfl⟩
  have e1 : foundV f Af cf = .agg #[.int .i64 f.kind, .string fn, .int .i64 f.s.ty, .int .i64 f.s.cl, .int .i64 f.s.ttl, .slice Af fl cf, .int .i64 f.left] := by unfold foundV; rw [hfn, hfl]
  have e2 : (cellsA x).toArray = #[.int .i64 x.a.kind, .int .i64 x.a.now, .int .i64 x.a.rank, .int .i64 x.a.type, .int .i64 x.a.ttl, .string xn, .string xsn, .int .i64 x.a.s.ty, .int .i64 x.a.s.cl, .int .i64 x.a.s.ttl, .slice x.A xl x.d] := by unfold cellsA; rw [hxn, hxsn, hxl]
  rw [e1, e2]
  have i1 : (f.kind == 0) = true := by simpa using h0
  clear e1 e2 hfn hfl hxn hxsn hxl h0
  go_enter Try.func30, Try.ntmps30
  go_wp2_with fail
  go_ret
  exact ⟨rfl, ext_trans (ext_alloc _ _) (ext_alloc _ _)⟩
set_option maxHeartbeats 8000000 in
set_option maxRecDepth 100000 in
theorem told_in {w : World} {f : FoundS} {Af : Option Addr} {cf : Nat} (hf : RdG w 1 Af f.s.data.length cf (tvs f.s.data)) {A : Option Addr} {c : Nat} {M : List Pm} (hM : PutsR w A c M) {x : Am} (hx : WfA x.a) (hn2 : x.a.nm.length ≤ 2000000) (hxt : 0 ≤ x.a.now ∧ x.a.now ≤ 1099511627776) (h0 : f.kind ≠ 0) (hk : ToldOk f M x.a) :
    Calls Try.prog 30 #[foundV f Af cf, .slice A M.length c, .agg (cellsA x).toArray] w fun e w' => e = .returned (.bool true) ∧ Ext w w' := by
  obtain ⟨i, hi, hhit, hno, htold⟩ := hk
  obtain ⟨n, hn⟩ : ∃ n, M.length = n := ⟨_, rfl⟩
  have hn9 := hM.1.n_le
  rw [hn] at hi hno hn9 ⊢
  obtain ⟨fn, hfn⟩ : ∃ fn, str f.s.nm = fn := ⟨_, rfl⟩
  obtain ⟨fl, hfl⟩ : ∃ fl, f.s.data.length = fl := ⟨_, rfl⟩
  obtain ⟨xn, hxn⟩ : ∃ xn, str x.a.nm = xn := ⟨_, rfl⟩
  obtain ⟨xsn, hxsn⟩ : ∃ xsn, str x.a.s.nm = xsn := ⟨_, rfl⟩
  obtain ⟨xl, hxl⟩ : ∃ xl, x.a.s.data.length = xl := ⟨_, rfl⟩
  have e1 : foundV f Af cf = .agg #[.int .i64 f.kind, .string fn, .int .i64 f.s.ty, .int .i64 f.s.cl, .int .i64 f.s.ttl, .slice Af fl cf, .int .i64 f.left] := by unfold foundV; rw [hfn, hfl]
  have e2 : (cellsA x).toArray = #[.int .i64 x.a.kind, .int .i64 x.a.now, .int .i64 x.a.rank, .int .i64 x.a.type, .int .i64 x.a.ttl, .string xn, .string xsn, .int .i64 x.a.s.ty, .int .i64 x.a.s.cl, .int .i64 x.a.s.ttl, .slice x.A xl x.d] := by unfold cellsA; rw [hxn, hxsn, hxl]
  rw [e1, e2]
  clear e1 e2
  have xa := ext_alloc w (.cells #[.int .i64 f.kind, .string fn, .int .i64 f.s.ty, .int .i64 f.s.cl, .int .i64 f.s.ttl, .slice Af fl cf, .int .i64 f.left] 37)
  have ba := Blk.new w 37 #[.int .i64 f.kind, .string fn, .int .i64 f.s.ty, .int .i64 f.s.cl, .int .i64 f.s.ttl, .slice Af fl cf, .int .i64 f.left]
  obtain ⟨wa, hwa⟩ : ∃ wa, w.alloc (.cells #[.int .i64 f.kind, .string fn, .int .i64 f.s.ty, .int .i64 f.s.cl, .int .i64 f.s.ttl, .slice Af fl cf, .int .i64 f.left] 37) = wa := ⟨_, rfl⟩
  obtain ⟨gf, hgf⟩ : ∃ gf, w.heap.size = gf := ⟨_, rfl⟩
  rw [hwa] at xa ba
  rw [hgf] at ba
  have xb := ext_alloc wa (.cells #[.int .i64 x.a.kind, .int .i64 x.a.now, .int .i64 x.a.rank, .int .i64 x.a.type, .int .i64 x.a.ttl, .string xn, .string xsn, .int .i64 x.a.s.ty, .int .i64 x.a.s.cl, .int .i64 x.a.s.ttl, .slice x.A xl x.d] 52)
  have bb := Blk.new wa 52 #[.int .i64 x.a.kind, .int .i64 x.a.now, .int .i64 x.a.rank, .int .i64 x.a.type, .int .i64 x.a.ttl, .string xn, .string xsn, .int .i64 x.a.s.ty, .int .i64 x.a.s.cl, .int .i64 x.a.s.ttl, .slice x.A xl x.d]
  have ba := ba.ext xb
  obtain ⟨wb, hwb⟩ : ∃ wb, wa.alloc (.cells #[.int .i64 x.a.kind, .int .i64 x.a.now, .int .i64 x.a.rank, .int .i64 x.a.type, .int .i64 x.a.ttl, .string xn, .string xsn, .int .i64 x.a.s.ty, .int .i64 x.a.s.cl, .int .i64 x.a.s.ttl, .slice x.A xl x.d] 52) = wb := ⟨_, rfl⟩
  obtain ⟨gx, hgx⟩ : ∃ gx, wa.heap.size = gx := ⟨_, rfl⟩
  have hg3 : w.heap.size + 1 = gx := by rw [← hgx, ← hwa]; simp
  rw [hwb] at xb ba bb
  rw [hgx] at bb
  have XX := hid (ext_trans xa xb)
  have BF := hid ba
  have BX := hid bb
  have f0 := ba.cell 0
  have f6 := ba.cell 6
  have y1 := bb.cell 1
  have y2 := bb.cell 2
  have y3 := bb.cell 3
  have y5 := bb.cell 5
  simp at f0 f6 y1 y2 y3 y5
  have KF : Hid (∀ W, Ext wb W → W.cell? ⟨gf, 0, none⟩ = some (.int .i64 f.kind) ∧ W.cell? ⟨gf, 6, none⟩ = some (.int .i64 f.left) ∧ W.cell? ⟨gx, 1, none⟩ = some (.int .i64 x.a.now) ∧ W.cell? ⟨gx, 2, none⟩ = some (.int .i64 x.a.rank) ∧ W.cell? ⟨gx, 3, none⟩ = some (.int .i64 x.a.type) ∧ W.cell? ⟨gx, 5, none⟩ = some (.string xn)) := hid (fun W y => by
    have b1 := ba.ext y
    have b2 := bb.ext y
    refine ⟨?_, ?_, ?_, ?_, ?_, ?_⟩
    · exact b1.cell 0
    · exact b1.cell 6
    · exact b2.cell 1
    · exact b2.cell 2
    · exact b2.cell 3
    · exact b2.cell 5)
  have HM := hid (hM.ext (ext_trans xa xb))
  have RF := hid (hf.ext (ext_trans xa xb))
  have HWA := hid hwa
  have HWB := hid hwb
  have HG3 := hid hg3
  have HGF := hid hgf
  have HXN := hid hxn
  have HFN := hid hfn
  have HFL := hid hfl
  have HN := hid hn
  have HHIT := hid hhit
  have HNO := hid hno
  have HTOLD := hid htold
  have hxw := hx.type
  have i0 : (f.kind == 0) = false := by simpa using h0
  obtain ⟨kd, hkd⟩ : ∃ kd, kindF f x.a = kd := ⟨_, rfl⟩
  have HKD := hid hkd
  have START : ToRel wb i n (.int .i64 ((n : Int) - 1)) wb := ⟨n - 1, by omega, by omega, by congr 1; omega, ext_refl _⟩
  have START := hid START
  clear xa xb ba bb hwa hgf hwb hgx hg3 hM hf hxn hxsn hxl hfn hfl hn hhit hno htold hx hkd h0
  have tail : ∀ (kk : Int), kk = kd → (if f.kind = 3 then kk = 0 else kk = x.a.type) → True := fun _ _ _ => trivial
  clear tail
  go_enter Try.func30, Try.ntmps30
  go_upto_region 1 with (fail)
  rw [HWA.out, HWB.out, HG3.out, HGF.out]
  by_cases h3 : f.kind = 3
  · have i3 : (f.kind == 3) = true := by simpa using h3
    have ek : kd = 0 := by rw [← HKD.out]; unfold kindF; rw [if_pos h3]
    have HEK := hid ek
    have H3 := hid h3
    clear ek h3
    go_wp2_with fail
    go_loopw [8] (fun iv wr => ToRel wb i n iv wr) (fun iv _ => (intOf iv).toNat)
    case atStart => exact START.out
    case round =>
      obtain ⟨k, hik, hkn, rfl, hxr⟩ := hrel
      obtain ⟨b, o, rfl, hb, hc⟩ := (HM.out.ext hxr).at_ (by rw [HN.out]; omega)
      obtain ⟨m, hmm, hme, ha⟩ := hc k (by rw [HN.out]; exact hkn)
      obtain ⟨wf, rt⟩ := (HM.out.ext hxr).2 m hmm
      obtain ⟨pn, hpn⟩ : ∃ pn, str m.p.nm = pn := ⟨_, rfl⟩
      obtain ⟨psn, hpsn⟩ : ∃ psn, str m.p.s.nm = psn := ⟨_, rfl⟩
      obtain ⟨pl, hpl⟩ : ∃ pl, m.p.s.data.length = pl := ⟨_, rfl⟩
      have c0 := ha 0 _ rfl
      have c1 := ha 1 _ rfl
      have c2 := ha 2 _ rfl
      have c3 := ha 3 _ rfl
      have c4 := ha 4 _ rfl
      have c5 := ha 5 _ rfl
      have c6 := ha 6 _ rfl
      have c7 := ha 7 _ rfl
      have c8 := ha 8 _ rfl
      have c9 := ha 9 _ rfl
      have c10 := ha 10 _ rfl
      rw [hpn] at c0
      rw [hpsn] at c2
      rw [hpl] at c6
      simp only [Nat.add_zero] at c0
      have xp := ext_alloc wr (.cells #[.string pn, .int .i64 m.p.kind, .string psn, .int .i64 m.p.s.ty, .int .i64 m.p.s.cl, .int .i64 m.p.s.ttl, .slice m.A pl m.d, .bool m.p.is, .int .i64 m.p.ttl, .int .i64 m.p.rank, .int .i64 m.p.now] 69)
      have bp := Blk.new wr 69 #[.string pn, .int .i64 m.p.kind, .string psn, .int .i64 m.p.s.ty, .int .i64 m.p.s.cl, .int .i64 m.p.s.ttl, .slice m.A pl m.d, .bool m.p.is, .int .i64 m.p.ttl, .int .i64 m.p.rank, .int .i64 m.p.now]
      obtain ⟨wp, hwp⟩ : ∃ wp, wr.alloc (.cells #[.string pn, .int .i64 m.p.kind, .string psn, .int .i64 m.p.s.ty, .int .i64 m.p.s.cl, .int .i64 m.p.s.ttl, .slice m.A pl m.d, .bool m.p.is, .int .i64 m.p.ttl, .int .i64 m.p.rank, .int .i64 m.p.now] 69) = wp := ⟨_, rfl⟩
      obtain ⟨gp, hgp⟩ : ∃ gp, wr.heap.size = gp := ⟨_, rfl⟩
      rw [hwp] at xp bp
      rw [hgp] at bp
      obtain ⟨p1, p2, p3, p4, p5, p6⟩ := KF.out _ (ext_trans hxr xp)
      have q0 := bp.cell 0
      simp at q0
      have SAME := hid (same_in m.p.nm x.a.nm wp wf.nm hn2)
      obtain ⟨sb, hsb⟩ : ∃ sb, sameB m.p.nm x.a.nm = sb := ⟨_, rfl⟩
      have SAME : Hid (Calls Try.prog 56 #[.string pn, .string xn] wp fun e w' => e = .returned (.bool sb) ∧ Ext wp w') := hid (by rw [← hpn, ← HXN.out, ← hsb]; exact SAME.out)
      have BP := hid bp
      have HWP := hid hwp
      have HGP := hid hgp
      have XP := hid (ext_trans hxr xp)
      have RT := hid (rt.ext xp)
      have HSB := hid hsb
      have HPSN := hid hpsn
      have HPL := hid hpl
      have HME := hid hme
      have HWFP := hid wf
      have j0 : (0 : Int) ≤ (k : Int) := by omega
      clear hc ha hmm hme rt hpn hpsn hpl xp bp hwp hgp hsb hxr wf
      go_upto_region 10 with (fail)
      rw [HWP.out, HGP.out]
      clear c0 c1 c2 c3 c4 c5 c6 c7 c8 c9 c10
      go_wp2_with fail
      refine SAME.out.mono ?_
      rintro e w3 ⟨rfl, x3⟩
      have B3 := BP.out.ext x3
      have X3 : Hid (Ext wb w3) := hid (ext_trans XP.out x3)
      have q1 := B3.cell 1
      have q7 := B3.cell 7
      have q8 := B3.cell 8
      have q10 := B3.cell 10
      simp at q1 q7 q8 q10
      have R3 := hid (RT.out.ext x3)
      have B3 := hid B3
      obtain ⟨z0, z6, z1, z2, z3, z5⟩ := KF.out _ X3.out
      clear x3 p1 p2 p3 p4 p5 p6 q0 SAME RT BP
      by_cases hki : k = i
      · have hh := HHIT.out
        have ht := HTOLD.out
        rw [← hki, HME.out] at hh ht
        obtain ⟨t1, t2, t3, t4⟩ := ht
        have e1 : sb = true := by rw [← HSB.out]; exact hh.1
        have e2 := hh.2
        rw [HKD.out, HEK.out] at e2
        subst e1
        have d2 : (m.p.kind == 0) = true := by simpa using e2
        have d2' : (m.p.kind != 0) = false := by simpa using e2
        have hnow := HWFP.out.now
        have httl := HWFP.out.ttl
        obtain ⟨dn, hdn⟩ : ∃ dn, x.a.now - m.p.now = dn := ⟨_, rfl⟩
        have rdn : -1099511627776 ≤ dn ∧ dn ≤ 1099511627776 := by omega
        have u1 : wrap64 (x.a.now - m.p.now) = dn := by rw [hdn]; exact IntWalk.wrap64_in _ (by omega)
        have u2 : IntKind.i64.wrap (x.a.now - m.p.now) = dn := by rw [hdn]; exact IntWalk.i64_in _ (by omega)
        rw [hdn] at t1 t4
        have t1s := t1.symm
        have v1 : wrap64 (m.p.ttl - dn) = f.left := by rw [t1s]; exact IntWalk.wrap64_in _ (by omega)
        have v2 : IntKind.i64.wrap (m.p.ttl - dn) = f.left := by rw [t1s]; exact IntWalk.i64_in _ (by omega)
        have d3 : (f.left != f.left) = false := by simp
        have d4 : decide (f.left < 1) = false := by simp; omega
        obtain ⟨isv, his⟩ : ∃ isv, m.p.is = isv := ⟨_, rfl⟩
        rw [his] at q7 t3 t4
        have d5 : (f.kind == 1) = isv := by rw [t3]; by_cases h : f.kind = 1 <;> simp [h]
        have d6 : (isv != isv) = false := by simp
        have BB : Blk w3 gp 69 #[.string pn, .int .i64 m.p.kind, .string psn, .int .i64 m.p.s.ty, .int .i64 m.p.s.cl, .int .i64 m.p.s.ttl, .slice m.A pl m.d, .bool isv, .int .i64 m.p.ttl, .int .i64 m.p.rank, .int .i64 m.p.now] := by have h1 := B3.out; rw [his] at h1; exact h1
        have KEEP : Hid (∀ W, Ext w3 W → W.cell? ⟨gf, 1, none⟩ = some (.string fn) ∧ W.cell? ⟨gf, 2, none⟩ = some (.int .i64 f.s.ty) ∧ W.cell? ⟨gf, 3, none⟩ = some (.int .i64 f.s.cl) ∧ W.cell? ⟨gf, 4, none⟩ = some (.int .i64 f.s.ttl) ∧ W.cell? ⟨gf, 5, none⟩ = some (.slice Af fl cf) ∧ W.cell? ⟨gx, 1, none⟩ = some (.int .i64 x.a.now) ∧ W.cell? ⟨gx, 2, none⟩ = some (.int .i64 x.a.rank) ∧ W.cell? ⟨gp, 2, none⟩ = some (.string psn) ∧ W.cell? ⟨gp, 3, none⟩ = some (.int .i64 m.p.s.ty) ∧ W.cell? ⟨gp, 4, none⟩ = some (.int .i64 m.p.s.cl) ∧ W.cell? ⟨gp, 5, none⟩ = some (.int .i64 m.p.s.ttl) ∧ W.cell? ⟨gp, 6, none⟩ = some (.slice m.A pl m.d) ∧ W.cell? ⟨gp, 7, none⟩ = some (.bool isv) ∧ W.cell? ⟨gp, 9, none⟩ = some (.int .i64 m.p.rank) ∧ W.cell? ⟨gp, 10, none⟩ = some (.int .i64 m.p.now)) := hid (fun W y => by
          have b1 := BF.out.ext (ext_trans X3.out y)
          have b2 := BX.out.ext (ext_trans X3.out y)
          have b3 := BB.ext y
          exact ⟨b1.cell 1, b1.cell 2, b1.cell 3, b1.cell 4, b1.cell 5, b2.cell 1, b2.cell 2, b3.cell 2, b3.cell 3, b3.cell 4, b3.cell 5, b3.cell 6, b3.cell 7, b3.cell 9, b3.cell 10⟩)
        have T4 := hid t4
        clear hh t4 e2 hdn t1 t1s t2 t3 his BB hki B3
        cases isv with
        | false =>
          go_upto_region 14 with (fail)
          clear u1 u2 v1 v2
          refine wp_region_noPanic ?_
          refine region_E (S := fun W => W.cell? ⟨gf, 1, none⟩ = some (.string fn) ∧ W.cell? ⟨gf, 2, none⟩ = some (.int .i64 f.s.ty) ∧ W.cell? ⟨gf, 3, none⟩ = some (.int .i64 f.s.cl) ∧ W.cell? ⟨gf, 4, none⟩ = some (.int .i64 f.s.ttl) ∧ W.cell? ⟨gf, 5, none⟩ = some (.slice Af fl cf) ∧ W.cell? ⟨gx, 1, none⟩ = some (.int .i64 x.a.now) ∧ W.cell? ⟨gx, 2, none⟩ = some (.int .i64 x.a.rank) ∧ W.cell? ⟨gp, 2, none⟩ = some (.string psn) ∧ W.cell? ⟨gp, 3, none⟩ = some (.int .i64 m.p.s.ty) ∧ W.cell? ⟨gp, 4, none⟩ = some (.int .i64 m.p.s.cl) ∧ W.cell? ⟨gp, 5, none⟩ = some (.int .i64 m.p.s.ttl) ∧ W.cell? ⟨gp, 6, none⟩ = some (.slice m.A pl m.d) ∧ W.cell? ⟨gp, 7, none⟩ = some (.bool false) ∧ W.cell? ⟨gp, 9, none⟩ = some (.int .i64 m.p.rank) ∧ W.cell? ⟨gp, 10, none⟩ = some (.int .i64 m.p.now)) 23 (by kernel_rfl) (by kernel_rfl) (by kernel_rfl) ?_
          refine EG_take 0 (v := ?v1) (by simp only [List.getElem?_toArray, List.getElem?_cons_succ, List.getElem?_cons_zero]; rfl) (by kernel_rfl) (by kernel_rfl) (by decide) (fun _ _ _ h => h) (Or.inl ⟨by rfl, ?hy1⟩) (KEEP.out _ (ext_drew _)) ?rest1
          case hy1 => intro W hSW; (try dsimp only at hSW); obtain ⟨e0, e1, e2, e3, e4, e5, e6, e7, e8, e9, e10, e11, e12, e13, e14⟩ := hSW; go_simp <;> with_reducible rfl
          try simp only [Act.put, List.setIfInBounds_toArray, List.set_cons_zero, List.set_cons_succ]
          refine EG_take 1 (v := ?v2) (by simp only [List.getElem?_toArray, List.getElem?_cons_succ, List.getElem?_cons_zero]; rfl) (by kernel_rfl) (by kernel_rfl) (by decide) (fun _ _ _ h => h) (Or.inl ⟨by rfl, ?hy2⟩) (KEEP.out _ (ext_drew _)) ?rest2
          case hy2 => intro W hSW; (try dsimp only at hSW); obtain ⟨e0, e1, e2, e3, e4, e5, e6, e7, e8, e9, e10, e11, e12, e13, e14⟩ := hSW; go_simp <;> with_reducible rfl
          try simp only [Act.put, List.setIfInBounds_toArray, List.set_cons_zero, List.set_cons_succ]
          refine EG_take 2 (v := ?v3) (by simp only [List.getElem?_toArray, List.getElem?_cons_succ, List.getElem?_cons_zero]; rfl) (by kernel_rfl) (by kernel_rfl) (by decide) (fun _ _ _ h => h) (Or.inl ⟨by rfl, ?hy3⟩) (KEEP.out _ (ext_drew _)) ?rest3
          case hy3 => intro W hSW; (try dsimp only at hSW); obtain ⟨e0, e1, e2, e3, e4, e5, e6, e7, e8, e9, e10, e11, e12, e13, e14⟩ := hSW; go_simp <;> with_reducible rfl
          try simp only [Act.put, List.setIfInBounds_toArray, List.set_cons_zero, List.set_cons_succ]
          refine EG_take 3 (v := ?v4) (by simp only [List.getElem?_toArray, List.getElem?_cons_succ, List.getElem?_cons_zero]; rfl) (by kernel_rfl) (by kernel_rfl) (by decide) (fun _ _ _ h => h) (Or.inl ⟨by rfl, ?hy4⟩) (KEEP.out _ (ext_drew _)) ?rest4
          case hy4 => intro W hSW; (try dsimp only at hSW); obtain ⟨e0, e1, e2, e3, e4, e5, e6, e7, e8, e9, e10, e11, e12, e13, e14⟩ := hSW; go_simp <;> with_reducible rfl
          try simp only [Act.put, List.setIfInBounds_toArray, List.set_cons_zero, List.set_cons_succ]
          refine EG_take 4 (v := undef) (by simp only [List.getElem?_toArray, List.getElem?_cons_succ, List.getElem?_cons_zero]; rfl) (by kernel_rfl) (by kernel_rfl) (by decide) (fun _ _ _ h => h) (Or.inr ⟨by rfl, rfl⟩) (KEEP.out _ (ext_drew _)) ?rest5
          try simp only [Act.put, List.setIfInBounds_toArray, List.set_cons_zero, List.set_cons_succ]
          refine EG_take 5 (v := undef) (by simp only [List.getElem?_toArray, List.getElem?_cons_succ, List.getElem?_cons_zero]; rfl) (by kernel_rfl) (by kernel_rfl) (by decide) (fun _ _ _ h => h) (Or.inr ⟨by rfl, rfl⟩) (KEEP.out _ (ext_drew _)) ?rest6
          try simp only [Act.put, List.setIfInBounds_toArray, List.set_cons_zero, List.set_cons_succ]
          refine EG_take 6 (v := undef) (by simp only [List.getElem?_toArray, List.getElem?_cons_succ, List.getElem?_cons_zero]; rfl) (by kernel_rfl) (by kernel_rfl) (by decide) (fun _ _ _ h => h) (Or.inr ⟨by rfl, rfl⟩) (KEEP.out _ (ext_drew _)) ?rest7
          try simp only [Act.put, List.setIfInBounds_toArray, List.set_cons_zero, List.set_cons_succ]
          refine EG_take 7 (v := undef) (by simp only [List.getElem?_toArray, List.getElem?_cons_succ, List.getElem?_cons_zero]; rfl) (by kernel_rfl) (by kernel_rfl) (by decide) (fun _ _ _ h => h) (Or.inr ⟨by rfl, rfl⟩) (KEEP.out _ (ext_drew _)) ?rest8
          try simp only [Act.put, List.setIfInBounds_toArray, List.set_cons_zero, List.set_cons_succ]
          refine EG_take 8 (v := undef) (by simp only [List.getElem?_toArray, List.getElem?_cons_succ, List.getElem?_cons_zero]; rfl) (by kernel_rfl) (by kernel_rfl) (by decide) (fun _ _ _ h => h) (Or.inr ⟨by rfl, rfl⟩) (KEEP.out _ (ext_drew _)) ?rest9
          try simp only [Act.put, List.setIfInBounds_toArray, List.set_cons_zero, List.set_cons_succ]
          refine EG_take 9 (v := undef) (by simp only [List.getElem?_toArray, List.getElem?_cons_succ, List.getElem?_cons_zero]; rfl) (by kernel_rfl) (by kernel_rfl) (by decide) (fun _ _ _ h => h) (Or.inr ⟨by rfl, rfl⟩) (KEEP.out _ (ext_drew _)) ?rest10
          try simp only [Act.put, List.setIfInBounds_toArray, List.set_cons_zero, List.set_cons_succ]
          refine EG_take 10 (v := undef) (by simp only [List.getElem?_toArray, List.getElem?_cons_succ, List.getElem?_cons_zero]; rfl) (by kernel_rfl) (by kernel_rfl) (by decide) (fun _ _ _ h => h) (Or.inr ⟨by rfl, rfl⟩) (KEEP.out _ (ext_drew _)) ?rest11
          try simp only [Act.put, List.setIfInBounds_toArray, List.set_cons_zero, List.set_cons_succ]
          refine EG_take 11 (v := undef) (by simp only [List.getElem?_toArray, List.getElem?_cons_succ, List.getElem?_cons_zero]; rfl) (by kernel_rfl) (by kernel_rfl) (by decide) (fun _ _ _ h => h) (Or.inr ⟨by rfl, rfl⟩) (KEEP.out _ (ext_drew _)) ?rest12
          try simp only [Act.put, List.setIfInBounds_toArray, List.set_cons_zero, List.set_cons_succ]
          refine EG_take 12 (v := undef) (by simp only [List.getElem?_toArray, List.getElem?_cons_succ, List.getElem?_cons_zero]; rfl) (by kernel_rfl) (by kernel_rfl) (by decide) (fun _ _ _ h => h) (Or.inr ⟨by rfl, rfl⟩) (KEEP.out _ (ext_drew _)) ?rest13
          try simp only [Act.put, List.setIfInBounds_toArray, List.set_cons_zero, List.set_cons_succ]
          refine EG_take 13 (v := undef) (by simp only [List.getElem?_toArray, List.getElem?_cons_succ, List.getElem?_cons_zero]; rfl) (by kernel_rfl) (by kernel_rfl) (by decide) (fun _ _ _ h => h) (Or.inr ⟨by rfl, rfl⟩) (KEEP.out _ (ext_drew _)) ?rest14
          try simp only [Act.put, List.setIfInBounds_toArray, List.set_cons_zero, List.set_cons_succ]
          refine EG_take 14 (v := undef) (by simp only [List.getElem?_toArray, List.getElem?_cons_succ, List.getElem?_cons_zero]; rfl) (by kernel_rfl) (by kernel_rfl) (by decide) (fun _ _ _ h => h) (Or.inr ⟨by rfl, rfl⟩) (KEEP.out _ (ext_drew _)) ?rest15
          try simp only [Act.put, List.setIfInBounds_toArray, List.set_cons_zero, List.set_cons_succ]
          refine EG_take 15 (v := undef) (by simp only [List.getElem?_toArray, List.getElem?_cons_succ, List.getElem?_cons_zero]; rfl) (by kernel_rfl) (by kernel_rfl) (by decide) (fun _ _ _ h => h) (Or.inr ⟨by rfl, rfl⟩) (KEEP.out _ (ext_drew _)) ?rest16
          try simp only [Act.put, List.setIfInBounds_toArray, List.set_cons_zero, List.set_cons_succ]
          refine EG_take 16 (v := undef) (by simp only [List.getElem?_toArray, List.getElem?_cons_succ, List.getElem?_cons_zero]; rfl) (by kernel_rfl) (by kernel_rfl) (by decide) (fun _ _ _ h => h) (Or.inr ⟨by rfl, rfl⟩) (KEEP.out _ (ext_drew _)) ?rest17
          try simp only [Act.put, List.setIfInBounds_toArray, List.set_cons_zero, List.set_cons_succ]
          refine EG_take 17 (v := undef) (by simp only [List.getElem?_toArray, List.getElem?_cons_succ, List.getElem?_cons_zero]; rfl) (by kernel_rfl) (by kernel_rfl) (by decide) (fun _ _ _ h => h) (Or.inr ⟨by rfl, rfl⟩) (KEEP.out _ (ext_drew _)) ?rest18
          try simp only [Act.put, List.setIfInBounds_toArray, List.set_cons_zero, List.set_cons_succ]
          refine EG_take 18 (v := undef) (by simp only [List.getElem?_toArray, List.getElem?_cons_succ, List.getElem?_cons_zero]; rfl) (by kernel_rfl) (by kernel_rfl) (by decide) (fun _ _ _ h => h) (Or.inr ⟨by rfl, rfl⟩) (KEEP.out _ (ext_drew _)) ?rest19
          try simp only [Act.put, List.setIfInBounds_toArray, List.set_cons_zero, List.set_cons_succ]
          refine EG_take 19 (v := undef) (by simp only [List.getElem?_toArray, List.getElem?_cons_succ, List.getElem?_cons_zero]; rfl) (by kernel_rfl) (by kernel_rfl) (by decide) (fun _ _ _ h => h) (Or.inr ⟨by rfl, rfl⟩) (KEEP.out _ (ext_drew _)) ?rest20
          try simp only [Act.put, List.setIfInBounds_toArray, List.set_cons_zero, List.set_cons_succ]
          refine EG_take 20 (v := undef) (by simp only [List.getElem?_toArray, List.getElem?_cons_succ, List.getElem?_cons_zero]; rfl) (by kernel_rfl) (by kernel_rfl) (by decide) (fun _ _ _ h => h) (Or.inr ⟨by rfl, rfl⟩) (KEEP.out _ (ext_drew _)) ?rest21
          try simp only [Act.put, List.setIfInBounds_toArray, List.set_cons_zero, List.set_cons_succ]
          refine EG_take 21 (v := undef) (by simp only [List.getElem?_toArray, List.getElem?_cons_succ, List.getElem?_cons_zero]; rfl) (by kernel_rfl) (by kernel_rfl) (by decide) (fun _ _ _ h => h) (Or.inr ⟨by rfl, rfl⟩) (KEEP.out _ (ext_drew _)) ?rest22
          try simp only [Act.put, List.setIfInBounds_toArray, List.set_cons_zero, List.set_cons_succ]
          refine EG_take 22 (v := ?v23) (by simp only [List.getElem?_toArray, List.getElem?_cons_succ, List.getElem?_cons_zero]; rfl) (by kernel_rfl) (by kernel_rfl) (by decide) (fun _ _ _ h => h) (Or.inl ⟨by rfl, ?hy23⟩) (KEEP.out _ (ext_drew _)) ?rest23
          case hy23 => intro W hSW; (try dsimp only at hSW); obtain ⟨e0, e1, e2, e3, e4, e5, e6, e7, e8, e9, e10, e11, e12, e13, e14⟩ := hSW; go_simp <;> with_reducible rfl
          try simp only [Act.put, List.setIfInBounds_toArray, List.set_cons_zero, List.set_cons_succ]
          refine EG_end (by kernel_rfl) (by simp only [List.getElem?_toArray, List.getElem?_cons_succ, List.getElem?_cons_zero]; rfl) ?_
          intro K hK0
          have hK := hid hK0
          clear hK0
          go_simp
          refine hK.out _ _ ?_
          clear hK K
          refine NoPanic.normal ?_
          go_wp2_with fail
          go_ret
          exact ⟨rfl, ext_trans XX.out (ext_trans X3.out (ext_drew _))⟩
        | true =>
          obtain ⟨r1, r2, r3, r4⟩ := T4.out rfl
          have RANK : Hid (x.a.rank ≤ m.p.rank) := hid r1
          have d7 : decide (x.a.rank ≤ m.p.rank) = true := by simpa using r1
          have CL := fun W (y : Ext w3 W) => less_in (R3.out.ext y) r2.1 r2.2 r3 (by have := HWFP.out.sttl; exact this.2)
          have HR4 := hid r4
          have HR2 := hid r2
          rw [HPSN.out, HPL.out] at CL
          have CL := hid CL
          clear r1 r2 r3 r4 T4
          go_upto_region 14 with (fail)
          clear v1 v2
          refine wp_region_noPanic ?_
          refine region_E (S := fun W => W.cell? ⟨gf, 1, none⟩ = some (.string fn) ∧ W.cell? ⟨gf, 2, none⟩ = some (.int .i64 f.s.ty) ∧ W.cell? ⟨gf, 3, none⟩ = some (.int .i64 f.s.cl) ∧ W.cell? ⟨gf, 4, none⟩ = some (.int .i64 f.s.ttl) ∧ W.cell? ⟨gf, 5, none⟩ = some (.slice Af fl cf) ∧ W.cell? ⟨gx, 1, none⟩ = some (.int .i64 x.a.now) ∧ W.cell? ⟨gx, 2, none⟩ = some (.int .i64 x.a.rank) ∧ W.cell? ⟨gp, 2, none⟩ = some (.string psn) ∧ W.cell? ⟨gp, 3, none⟩ = some (.int .i64 m.p.s.ty) ∧ W.cell? ⟨gp, 4, none⟩ = some (.int .i64 m.p.s.cl) ∧ W.cell? ⟨gp, 5, none⟩ = some (.int .i64 m.p.s.ttl) ∧ W.cell? ⟨gp, 6, none⟩ = some (.slice m.A pl m.d) ∧ W.cell? ⟨gp, 7, none⟩ = some (.bool true) ∧ W.cell? ⟨gp, 9, none⟩ = some (.int .i64 m.p.rank) ∧ W.cell? ⟨gp, 10, none⟩ = some (.int .i64 m.p.now)) 23 (by kernel_rfl) (by kernel_rfl) (by kernel_rfl) ?_
          refine EG_take 0 (v := ?v24) (by simp only [List.getElem?_toArray, List.getElem?_cons_succ, List.getElem?_cons_zero]; rfl) (by kernel_rfl) (by kernel_rfl) (by decide) (fun _ _ _ h => h) (Or.inl ⟨by rfl, ?hy24⟩) (KEEP.out _ (ext_drew _)) ?rest24
          case hy24 => intro W hSW; (try dsimp only at hSW); obtain ⟨e0, e1, e2, e3, e4, e5, e6, e7, e8, e9, e10, e11, e12, e13, e14⟩ := hSW; go_simp <;> with_reducible rfl
          try simp only [Act.put, List.setIfInBounds_toArray, List.set_cons_zero, List.set_cons_succ]
          refine EG_take 1 (v := ?v25) (by simp only [List.getElem?_toArray, List.getElem?_cons_succ, List.getElem?_cons_zero]; rfl) (by kernel_rfl) (by kernel_rfl) (by decide) (fun _ _ _ h => h) (Or.inl ⟨by rfl, ?hy25⟩) (KEEP.out _ (ext_drew _)) ?rest25
          case hy25 => intro W hSW; (try dsimp only at hSW); obtain ⟨e0, e1, e2, e3, e4, e5, e6, e7, e8, e9, e10, e11, e12, e13, e14⟩ := hSW; go_simp <;> with_reducible rfl
          try simp only [Act.put, List.setIfInBounds_toArray, List.set_cons_zero, List.set_cons_succ]
          refine EG_take 2 (v := ?v26) (by simp only [List.getElem?_toArray, List.getElem?_cons_succ, List.getElem?_cons_zero]; rfl) (by kernel_rfl) (by kernel_rfl) (by decide) (fun _ _ _ h => h) (Or.inl ⟨by rfl, ?hy26⟩) (KEEP.out _ (ext_drew _)) ?rest26
          case hy26 => intro W hSW; (try dsimp only at hSW); obtain ⟨e0, e1, e2, e3, e4, e5, e6, e7, e8, e9, e10, e11, e12, e13, e14⟩ := hSW; go_simp <;> with_reducible rfl
          try simp only [Act.put, List.setIfInBounds_toArray, List.set_cons_zero, List.set_cons_succ]
          refine EG_take 3 (v := ?v27) (by simp only [List.getElem?_toArray, List.getElem?_cons_succ, List.getElem?_cons_zero]; rfl) (by kernel_rfl) (by kernel_rfl) (by decide) (fun _ _ _ h => h) (Or.inl ⟨by rfl, ?hy27⟩) (KEEP.out _ (ext_drew _)) ?rest27
          case hy27 => intro W hSW; (try dsimp only at hSW); obtain ⟨e0, e1, e2, e3, e4, e5, e6, e7, e8, e9, e10, e11, e12, e13, e14⟩ := hSW; go_simp <;> with_reducible rfl
          try simp only [Act.put, List.setIfInBounds_toArray, List.set_cons_zero, List.set_cons_succ]
          refine EG_take 4 (v := ?v28) (by simp only [List.getElem?_toArray, List.getElem?_cons_succ, List.getElem?_cons_zero]; rfl) (by kernel_rfl) (by kernel_rfl) (by decide) (fun _ _ _ h => h) (Or.inl ⟨by rfl, ?hy28⟩) (KEEP.out _ (ext_drew _)) ?rest28
          case hy28 => intro W hSW; (try dsimp only at hSW); obtain ⟨e0, e1, e2, e3, e4, e5, e6, e7, e8, e9, e10, e11, e12, e13, e14⟩ := hSW; go_simp <;> with_reducible rfl
          try simp only [Act.put, List.setIfInBounds_toArray, List.set_cons_zero, List.set_cons_succ]
          refine EG_take 5 (v := ?v29) (by simp only [List.getElem?_toArray, List.getElem?_cons_succ, List.getElem?_cons_zero]; rfl) (by kernel_rfl) (by kernel_rfl) (by decide) (fun _ _ _ h => h) (Or.inl ⟨by rfl, ?hy29⟩) (KEEP.out _ (ext_drew _)) ?rest29
          case hy29 => intro W hSW; (try dsimp only at hSW); obtain ⟨e0, e1, e2, e3, e4, e5, e6, e7, e8, e9, e10, e11, e12, e13, e14⟩ := hSW; go_simp <;> with_reducible rfl
          try simp only [Act.put, List.setIfInBounds_toArray, List.set_cons_zero, List.set_cons_succ]
          refine EG_take 6 (v := ?v30) (by simp only [List.getElem?_toArray, List.getElem?_cons_succ, List.getElem?_cons_zero]; rfl) (by kernel_rfl) (by kernel_rfl) (by decide) (fun _ _ _ h => h) (Or.inl ⟨by rfl, ?hy30⟩) (KEEP.out _ (ext_drew _)) ?rest30
          case hy30 => intro W hSW; (try dsimp only at hSW); obtain ⟨e0, e1, e2, e3, e4, e5, e6, e7, e8, e9, e10, e11, e12, e13, e14⟩ := hSW; go_simp <;> with_reducible rfl
          try simp only [Act.put, List.setIfInBounds_toArray, List.set_cons_zero, List.set_cons_succ]
          refine EG_take 7 (v := ?v31) (by simp only [List.getElem?_toArray, List.getElem?_cons_succ, List.getElem?_cons_zero]; rfl) (by kernel_rfl) (by kernel_rfl) (by decide) (fun _ _ _ h => h) (Or.inl ⟨by rfl, ?hy31⟩) (KEEP.out _ (ext_drew _)) ?rest31
          case hy31 => intro W hSW; (try dsimp only at hSW); obtain ⟨e0, e1, e2, e3, e4, e5, e6, e7, e8, e9, e10, e11, e12, e13, e14⟩ := hSW; go_simp <;> with_reducible rfl
          try simp only [Act.put, List.setIfInBounds_toArray, List.set_cons_zero, List.set_cons_succ]
          refine EG_take 8 (v := ?v32) (by simp only [List.getElem?_toArray, List.getElem?_cons_succ, List.getElem?_cons_zero]; rfl) (by kernel_rfl) (by kernel_rfl) (by decide) (fun _ _ _ h => h) (Or.inl ⟨by rfl, ?hy32⟩) (KEEP.out _ (ext_drew _)) ?rest32
          case hy32 => intro W hSW; (try dsimp only at hSW); obtain ⟨e0, e1, e2, e3, e4, e5, e6, e7, e8, e9, e10, e11, e12, e13, e14⟩ := hSW; go_simp <;> with_reducible rfl
          try simp only [Act.put, List.setIfInBounds_toArray, List.set_cons_zero, List.set_cons_succ]
          refine EG_take 9 (v := ?v33) (by simp only [List.getElem?_toArray, List.getElem?_cons_succ, List.getElem?_cons_zero]; rfl) (by kernel_rfl) (by kernel_rfl) (by decide) (fun _ _ _ h => h) (Or.inl ⟨by rfl, ?hy33⟩) (KEEP.out _ (ext_drew _)) ?rest33
          case hy33 => intro W hSW; (try dsimp only at hSW); obtain ⟨e0, e1, e2, e3, e4, e5, e6, e7, e8, e9, e10, e11, e12, e13, e14⟩ := hSW; go_simp <;> with_reducible rfl
          try simp only [Act.put, List.setIfInBounds_toArray, List.set_cons_zero, List.set_cons_succ]
          refine EG_take 10 (v := ?v34) (by simp only [List.getElem?_toArray, List.getElem?_cons_succ, List.getElem?_cons_zero]; rfl) (by kernel_rfl) (by kernel_rfl) (by decide) (fun _ _ _ h => h) (Or.inl ⟨by rfl, ?hy34⟩) (KEEP.out _ (ext_drew _)) ?rest34
          case hy34 => intro W hSW; (try dsimp only at hSW); obtain ⟨e0, e1, e2, e3, e4, e5, e6, e7, e8, e9, e10, e11, e12, e13, e14⟩ := hSW; go_simp <;> with_reducible rfl
          try simp only [Act.put, List.setIfInBounds_toArray, List.set_cons_zero, List.set_cons_succ]
          refine EG_take 11 (v := ?v35) (by simp only [List.getElem?_toArray, List.getElem?_cons_succ, List.getElem?_cons_zero]; rfl) (by kernel_rfl) (by kernel_rfl) (by decide) (fun _ _ _ h => h) (Or.inl ⟨by rfl, ?hy35⟩) (KEEP.out _ (ext_drew _)) ?rest35
          case hy35 => intro W hSW; (try dsimp only at hSW); obtain ⟨e0, e1, e2, e3, e4, e5, e6, e7, e8, e9, e10, e11, e12, e13, e14⟩ := hSW; go_simp <;> with_reducible rfl
          try simp only [Act.put, List.setIfInBounds_toArray, List.set_cons_zero, List.set_cons_succ]
          refine EG_take 12 (v := ?v36) (by simp only [List.getElem?_toArray, List.getElem?_cons_succ, List.getElem?_cons_zero]; rfl) (by kernel_rfl) (by kernel_rfl) (by decide) (fun _ _ _ h => h) (Or.inl ⟨by rfl, ?hy36⟩) (KEEP.out _ (ext_drew _)) ?rest36
          case hy36 => intro W hSW; (try dsimp only at hSW); obtain ⟨e0, e1, e2, e3, e4, e5, e6, e7, e8, e9, e10, e11, e12, e13, e14⟩ := hSW; go_simp <;> with_reducible rfl
          try simp only [Act.put, List.setIfInBounds_toArray, List.set_cons_zero, List.set_cons_succ]
          refine EG_take 13 (v := ?v37) (by simp only [List.getElem?_toArray, List.getElem?_cons_succ, List.getElem?_cons_zero]; rfl) (by kernel_rfl) (by kernel_rfl) (by decide) (fun _ _ _ h => h) (Or.inl ⟨by rfl, ?hy37⟩) (KEEP.out _ (ext_drew _)) ?rest37
          case hy37 => intro W hSW; (try dsimp only at hSW); obtain ⟨e0, e1, e2, e3, e4, e5, e6, e7, e8, e9, e10, e11, e12, e13, e14⟩ := hSW; go_simp <;> with_reducible rfl
          try simp only [Act.put, List.setIfInBounds_toArray, List.set_cons_zero, List.set_cons_succ]
          refine EG_take 14 (v := ?v38) (by simp only [List.getElem?_toArray, List.getElem?_cons_succ, List.getElem?_cons_zero]; rfl) (by kernel_rfl) (by kernel_rfl) (by decide) (fun _ _ _ h => h) (Or.inl ⟨by rfl, ?hy38⟩) (KEEP.out _ (ext_drew _)) ?rest38
          case hy38 => intro W hSW; (try dsimp only at hSW); obtain ⟨e0, e1, e2, e3, e4, e5, e6, e7, e8, e9, e10, e11, e12, e13, e14⟩ := hSW; go_simp <;> with_reducible rfl
          try simp only [Act.put, List.setIfInBounds_toArray, List.set_cons_zero, List.set_cons_succ]
          refine EG_take 15 (v := ?v39) (by simp only [List.getElem?_toArray, List.getElem?_cons_succ, List.getElem?_cons_zero]; rfl) (by kernel_rfl) (by kernel_rfl) (by decide) (fun _ _ _ h => h) (Or.inl ⟨by rfl, ?hy39⟩) (KEEP.out _ (ext_drew _)) ?rest39
          case hy39 => intro W hSW; (try dsimp only at hSW); obtain ⟨e0, e1, e2, e3, e4, e5, e6, e7, e8, e9, e10, e11, e12, e13, e14⟩ := hSW; go_simp <;> with_reducible rfl
          try simp only [Act.put, List.setIfInBounds_toArray, List.set_cons_zero, List.set_cons_succ]
          refine EG_take 16 (v := ?v40) (by simp only [List.getElem?_toArray, List.getElem?_cons_succ, List.getElem?_cons_zero]; rfl) (by kernel_rfl) (by kernel_rfl) (by decide) (fun _ _ _ h => h) (Or.inl ⟨by rfl, ?hy40⟩) (KEEP.out _ (ext_drew _)) ?rest40
          case hy40 => intro W hSW; (try dsimp only at hSW); obtain ⟨e0, e1, e2, e3, e4, e5, e6, e7, e8, e9, e10, e11, e12, e13, e14⟩ := hSW; go_simp <;> with_reducible rfl
          try simp only [Act.put, List.setIfInBounds_toArray, List.set_cons_zero, List.set_cons_succ]
          refine EG_take 17 (v := ?v41) (by simp only [List.getElem?_toArray, List.getElem?_cons_succ, List.getElem?_cons_zero]; rfl) (by kernel_rfl) (by kernel_rfl) (by decide) (fun _ _ _ h => h) (Or.inl ⟨by rfl, ?hy41⟩) (KEEP.out _ (ext_drew _)) ?rest41
          case hy41 => intro W hSW; (try dsimp only at hSW); obtain ⟨e0, e1, e2, e3, e4, e5, e6, e7, e8, e9, e10, e11, e12, e13, e14⟩ := hSW; go_simp <;> with_reducible rfl
          try simp only [Act.put, List.setIfInBounds_toArray, List.set_cons_zero, List.set_cons_succ]
          refine EG_take 18 (v := ?v42) (by simp only [List.getElem?_toArray, List.getElem?_cons_succ, List.getElem?_cons_zero]; rfl) (by kernel_rfl) (by kernel_rfl) (by decide) (fun _ _ _ h => h) (Or.inl ⟨by rfl, ?hy42⟩) (KEEP.out _ (ext_drew _)) ?rest42
          case hy42 => intro W hSW; (try dsimp only at hSW); obtain ⟨e0, e1, e2, e3, e4, e5, e6, e7, e8, e9, e10, e11, e12, e13, e14⟩ := hSW; go_simp <;> with_reducible rfl
          try simp only [Act.put, List.setIfInBounds_toArray, List.set_cons_zero, List.set_cons_succ]
          refine EG_one 19 (by kernel_rfl) (by simp only [List.getElem?_toArray, List.getElem?_cons_succ, List.getElem?_cons_zero]; rfl) (by decide) ?_
          intro K hK0
          have hK := hid hK0
          clear hK0
          go_simp
          refine (CL.out _ (ext_drew _)).mono ?_
          rintro e w5 ⟨A5, c5, rfl, o5, x5⟩
          rw [HPSN.out, HPL.out]
          have X5 : Hid (Ext w3 w5) := hid (ext_trans (ext_drew _) x5)
          have CS : Hid (Calls Try.prog 28 #[.agg #[.string fn, .int .i64 f.s.ty, .int .i64 f.s.cl, .int .i64 f.s.ttl, .slice Af fl cf], .agg #[.string psn, .int .i64 m.p.s.ty, .int .i64 m.p.s.cl, .int .i64 (m.p.s.ttl - dn), .slice A5 pl c5]] w5 fun e w' => e = .returned (.bool true) ∧ Ext w5 w') := hid (by
            have hs : f.s.nm = m.p.s.nm ∧ f.s.ty = m.p.s.ty ∧ f.s.cl = m.p.s.cl ∧ f.s.ttl = m.p.s.ttl - dn ∧ f.s.data = m.p.s.data := by rw [HR4.out]; exact ⟨rfl, rfl, rfl, rfl, rfl⟩
            obtain ⟨s1, s2, s3, s4, s5⟩ := hs
            have h1 := same_set (s := f.s) (A := Af) (ca := cf) (B := A5) (cb := c5) (RF.out.ext (ext_trans X3.out X5.out)) (by rw [s5]; exact o5.rd) (by rw [s5]; exact HR2.out.2)
            rw [HFN.out, HFL.out] at h1
            have e5 : fl = pl := by rw [← HFL.out, ← HPL.out, s5]
            have e6 : fn = psn := by rw [← HFN.out, ← HPSN.out, s1]
            rw [← e5, ← e6, ← s2, ← s3, ← s4]
            exact h1)
          clear o5 x5
          go_simp
          refine hK.out _ _ (KEEP.out _ X5.out) ?_
          clear hK K
          try simp only [Act.put, List.setIfInBounds_toArray, List.set_cons_zero, List.set_cons_succ]
          refine EG_one 20 (by kernel_rfl) (by simp only [List.getElem?_toArray, List.getElem?_cons_succ, List.getElem?_cons_zero]; rfl) (by decide) ?_
          intro K hK0
          have hK := hid hK0
          clear hK0
          go_simp
          refine CS.out.mono ?_
          rintro e w7 ⟨rfl, x7⟩
          have X7 : Hid (Ext w3 w7) := hid (ext_trans X5.out x7)
          clear x7 CS
          go_simp
          refine hK.out _ _ (KEEP.out _ X7.out) ?_
          clear hK K
          try simp only [Act.put, List.setIfInBounds_toArray, List.set_cons_zero, List.set_cons_succ]
          refine EG_take 21 (v := ?v43) (by simp only [List.getElem?_toArray, List.getElem?_cons_succ, List.getElem?_cons_zero]; rfl) (by kernel_rfl) (by kernel_rfl) (by decide) (fun _ _ _ h => h) (Or.inl ⟨by rfl, ?hy43⟩) (KEEP.out _ X7.out) ?rest43
          case hy43 => intro W hSW; (try dsimp only at hSW); obtain ⟨e0, e1, e2, e3, e4, e5, e6, e7, e8, e9, e10, e11, e12, e13, e14⟩ := hSW; go_simp <;> with_reducible rfl
          try simp only [Act.put, List.setIfInBounds_toArray, List.set_cons_zero, List.set_cons_succ]
          refine EG_take 22 (v := ?v44) (by simp only [List.getElem?_toArray, List.getElem?_cons_succ, List.getElem?_cons_zero]; rfl) (by kernel_rfl) (by kernel_rfl) (by decide) (fun _ _ _ h => h) (Or.inl ⟨by rfl, ?hy44⟩) (KEEP.out _ X7.out) ?rest44
          case hy44 => intro W hSW; (try dsimp only at hSW); obtain ⟨e0, e1, e2, e3, e4, e5, e6, e7, e8, e9, e10, e11, e12, e13, e14⟩ := hSW; go_simp <;> with_reducible rfl
          try simp only [Act.put, List.setIfInBounds_toArray, List.set_cons_zero, List.set_cons_succ]
          refine EG_end (by kernel_rfl) (by simp only [List.getElem?_toArray, List.getElem?_cons_succ, List.getElem?_cons_zero]; rfl) ?_
          intro K hK0
          have hK := hid hK0
          clear hK0
          go_simp
          refine hK.out _ _ ?_
          clear hK K
          refine NoPanic.normal ?_
          go_wp2_with fail
          go_ret
          exact ⟨rfl, ext_trans XX.out (ext_trans X3.out X7.out)⟩
      · have hlt : i < k := by omega
        have hnh := HNO.out k hlt hkn
        rw [HME.out, HKD.out, HEK.out] at hnh
        have hk1 : (k : Int) - 1 = ((k - 1 : Nat) : Int) := by omega
        have REL : ToRel wb i n (.int .i64 ((k : Int) - 1)) w3 := ⟨k - 1, by omega, by omega, by rw [hk1], X3.out⟩
        have REL := hid REL
        clear hk1
        cases sb with
        | false =>
          clear hnh
          go_wp2_with fail
          go_roundw
          case rel => exact REL.out
          case measure => simp [intOf]; omega
        | true =>
          have e2 : m.p.kind ≠ 0 := fun e => hnh ⟨HSB.out, e⟩
          have d2 : (m.p.kind == 0) = false := by simpa using e2
          have d2' : (m.p.kind != 0) = true := by simpa using e2
          clear hnh e2
          go_wp2_with fail
          go_roundw
          case rel => exact REL.out
          case measure => simp [intOf]; omega
  · have i3 : (f.kind == 3) = false := by simpa using h3
    have ek : kd = x.a.type := by rw [← HKD.out]; unfold kindF; rw [if_neg h3]
    have HEK := hid ek
    have H3 := hid h3
    clear ek h3
    go_wp2_with fail
    go_loopw [8] (fun iv wr => ToRel wb i n iv wr) (fun iv _ => (intOf iv).toNat)
    case atStart => exact START.out
    case round =>
      obtain ⟨k, hik, hkn, rfl, hxr⟩ := hrel
      obtain ⟨b, o, rfl, hb, hc⟩ := (HM.out.ext hxr).at_ (by rw [HN.out]; omega)
      obtain ⟨m, hmm, hme, ha⟩ := hc k (by rw [HN.out]; exact hkn)
      obtain ⟨wf, rt⟩ := (HM.out.ext hxr).2 m hmm
      obtain ⟨pn, hpn⟩ : ∃ pn, str m.p.nm = pn := ⟨_, rfl⟩
      obtain ⟨psn, hpsn⟩ : ∃ psn, str m.p.s.nm = psn := ⟨_, rfl⟩
      obtain ⟨pl, hpl⟩ : ∃ pl, m.p.s.data.length = pl := ⟨_, rfl⟩
      have c0 := ha 0 _ rfl
      have c1 := ha 1 _ rfl
      have c2 := ha 2 _ rfl
      have c3 := ha 3 _ rfl
      have c4 := ha 4 _ rfl
      have c5 := ha 5 _ rfl
      have c6 := ha 6 _ rfl
      have c7 := ha 7 _ rfl
      have c8 := ha 8 _ rfl
      have c9 := ha 9 _ rfl
      have c10 := ha 10 _ rfl
      rw [hpn] at c0
      rw [hpsn] at c2
      rw [hpl] at c6
      simp only [Nat.add_zero] at c0
      have xp := ext_alloc wr (.cells #[.string pn, .int .i64 m.p.kind, .string psn, .int .i64 m.p.s.ty, .int .i64 m.p.s.cl, .int .i64 m.p.s.ttl, .slice m.A pl m.d, .bool m.p.is, .int .i64 m.p.ttl, .int .i64 m.p.rank, .int .i64 m.p.now] 69)
      have bp := Blk.new wr 69 #[.string pn, .int .i64 m.p.kind, .string psn, .int .i64 m.p.s.ty, .int .i64 m.p.s.cl, .int .i64 m.p.s.ttl, .slice m.A pl m.d, .bool m.p.is, .int .i64 m.p.ttl, .int .i64 m.p.rank, .int .i64 m.p.now]
      obtain ⟨wp, hwp⟩ : ∃ wp, wr.alloc (.cells #[.string pn, .int .i64 m.p.kind, .string psn, .int .i64 m.p.s.ty, .int .i64 m.p.s.cl, .int .i64 m.p.s.ttl, .slice m.A pl m.d, .bool m.p.is, .int .i64 m.p.ttl, .int .i64 m.p.rank, .int .i64 m.p.now] 69) = wp := ⟨_, rfl⟩
      obtain ⟨gp, hgp⟩ : ∃ gp, wr.heap.size = gp := ⟨_, rfl⟩
      rw [hwp] at xp bp
      rw [hgp] at bp
      obtain ⟨p1, p2, p3, p4, p5, p6⟩ := KF.out _ (ext_trans hxr xp)
      have q0 := bp.cell 0
      simp at q0
      have SAME := hid (same_in m.p.nm x.a.nm wp wf.nm hn2)
      obtain ⟨sb, hsb⟩ : ∃ sb, sameB m.p.nm x.a.nm = sb := ⟨_, rfl⟩
      have SAME : Hid (Calls Try.prog 56 #[.string pn, .string xn] wp fun e w' => e = .returned (.bool sb) ∧ Ext wp w') := hid (by rw [← hpn, ← HXN.out, ← hsb]; exact SAME.out)
      have BP := hid bp
      have HWP := hid hwp
      have HGP := hid hgp
      have XP := hid (ext_trans hxr xp)
      have RT := hid (rt.ext xp)
      have HSB := hid hsb
      have HPSN := hid hpsn
      have HPL := hid hpl
      have HME := hid hme
      have HWFP := hid wf
      have j0 : (0 : Int) ≤ (k : Int) := by omega
      clear hc ha hmm hme rt hpn hpsn hpl xp bp hwp hgp hsb hxr wf
      go_upto_region 10 with (fail)
      rw [HWP.out, HGP.out]
      clear c0 c1 c2 c3 c4 c5 c6 c7 c8 c9 c10
      go_wp2_with fail
      refine SAME.out.mono ?_
      rintro e w3 ⟨rfl, x3⟩
      have B3 := BP.out.ext x3
      have X3 : Hid (Ext wb w3) := hid (ext_trans XP.out x3)
      have q1 := B3.cell 1
      have q7 := B3.cell 7
      have q8 := B3.cell 8
      have q10 := B3.cell 10
      simp at q1 q7 q8 q10
      have R3 := hid (RT.out.ext x3)
      have B3 := hid B3
      obtain ⟨z0, z6, z1, z2, z3, z5⟩ := KF.out _ X3.out
      clear x3 p1 p2 p3 p4 p5 p6 q0 SAME RT BP
      by_cases hki : k = i
      · have hh := HHIT.out
        have ht := HTOLD.out
        rw [← hki, HME.out] at hh ht
        obtain ⟨t1, t2, t3, t4⟩ := ht
        have e1 : sb = true := by rw [← HSB.out]; exact hh.1
        have e2 := hh.2
        rw [HKD.out, HEK.out] at e2
        subst e1
        have d2 : (m.p.kind == x.a.type) = true := by simpa using e2
        have d2' : (m.p.kind != x.a.type) = false := by simpa using e2
        have hnow := HWFP.out.now
        have httl := HWFP.out.ttl
        obtain ⟨dn, hdn⟩ : ∃ dn, x.a.now - m.p.now = dn := ⟨_, rfl⟩
        have rdn : -1099511627776 ≤ dn ∧ dn ≤ 1099511627776 := by omega
        have u1 : wrap64 (x.a.now - m.p.now) = dn := by rw [hdn]; exact IntWalk.wrap64_in _ (by omega)
        have u2 : IntKind.i64.wrap (x.a.now - m.p.now) = dn := by rw [hdn]; exact IntWalk.i64_in _ (by omega)
        rw [hdn] at t1 t4
        have t1s := t1.symm
        have v1 : wrap64 (m.p.ttl - dn) = f.left := by rw [t1s]; exact IntWalk.wrap64_in _ (by omega)
        have v2 : IntKind.i64.wrap (m.p.ttl - dn) = f.left := by rw [t1s]; exact IntWalk.i64_in _ (by omega)
        have d3 : (f.left != f.left) = false := by simp
        have d4 : decide (f.left < 1) = false := by simp; omega
        obtain ⟨isv, his⟩ : ∃ isv, m.p.is = isv := ⟨_, rfl⟩
        rw [his] at q7 t3 t4
        have d5 : (f.kind == 1) = isv := by rw [t3]; by_cases h : f.kind = 1 <;> simp [h]
        have d6 : (isv != isv) = false := by simp
        have BB : Blk w3 gp 69 #[.string pn, .int .i64 m.p.kind, .string psn, .int .i64 m.p.s.ty, .int .i64 m.p.s.cl, .int .i64 m.p.s.ttl, .slice m.A pl m.d, .bool isv, .int .i64 m.p.ttl, .int .i64 m.p.rank, .int .i64 m.p.now] := by have h1 := B3.out; rw [his] at h1; exact h1
        have KEEP : Hid (∀ W, Ext w3 W → W.cell? ⟨gf, 1, none⟩ = some (.string fn) ∧ W.cell? ⟨gf, 2, none⟩ = some (.int .i64 f.s.ty) ∧ W.cell? ⟨gf, 3, none⟩ = some (.int .i64 f.s.cl) ∧ W.cell? ⟨gf, 4, none⟩ = some (.int .i64 f.s.ttl) ∧ W.cell? ⟨gf, 5, none⟩ = some (.slice Af fl cf) ∧ W.cell? ⟨gx, 1, none⟩ = some (.int .i64 x.a.now) ∧ W.cell? ⟨gx, 2, none⟩ = some (.int .i64 x.a.rank) ∧ W.cell? ⟨gp, 2, none⟩ = some (.string psn) ∧ W.cell? ⟨gp, 3, none⟩ = some (.int .i64 m.p.s.ty) ∧ W.cell? ⟨gp, 4, none⟩ = some (.int .i64 m.p.s.cl) ∧ W.cell? ⟨gp, 5, none⟩ = some (.int .i64 m.p.s.ttl) ∧ W.cell? ⟨gp, 6, none⟩ = some (.slice m.A pl m.d) ∧ W.cell? ⟨gp, 7, none⟩ = some (.bool isv) ∧ W.cell? ⟨gp, 9, none⟩ = some (.int .i64 m.p.rank) ∧ W.cell? ⟨gp, 10, none⟩ = some (.int .i64 m.p.now)) := hid (fun W y => by
          have b1 := BF.out.ext (ext_trans X3.out y)
          have b2 := BX.out.ext (ext_trans X3.out y)
          have b3 := BB.ext y
          exact ⟨b1.cell 1, b1.cell 2, b1.cell 3, b1.cell 4, b1.cell 5, b2.cell 1, b2.cell 2, b3.cell 2, b3.cell 3, b3.cell 4, b3.cell 5, b3.cell 6, b3.cell 7, b3.cell 9, b3.cell 10⟩)
        have T4 := hid t4
        clear hh t4 e2 hdn t1 t1s t2 t3 his BB hki B3
        cases isv with
        | false =>
          go_upto_region 14 with (fail)
          clear u1 u2 v1 v2
          refine wp_region_noPanic ?_
          refine region_E (S := fun W => W.cell? ⟨gf, 1, none⟩ = some (.string fn) ∧ W.cell? ⟨gf, 2, none⟩ = some (.int .i64 f.s.ty) ∧ W.cell? ⟨gf, 3, none⟩ = some (.int .i64 f.s.cl) ∧ W.cell? ⟨gf, 4, none⟩ = some (.int .i64 f.s.ttl) ∧ W.cell? ⟨gf, 5, none⟩ = some (.slice Af fl cf) ∧ W.cell? ⟨gx, 1, none⟩ = some (.int .i64 x.a.now) ∧ W.cell? ⟨gx, 2, none⟩ = some (.int .i64 x.a.rank) ∧ W.cell? ⟨gp, 2, none⟩ = some (.string psn) ∧ W.cell? ⟨gp, 3, none⟩ = some (.int .i64 m.p.s.ty) ∧ W.cell? ⟨gp, 4, none⟩ = some (.int .i64 m.p.s.cl) ∧ W.cell? ⟨gp, 5, none⟩ = some (.int .i64 m.p.s.ttl) ∧ W.cell? ⟨gp, 6, none⟩ = some (.slice m.A pl m.d) ∧ W.cell? ⟨gp, 7, none⟩ = some (.bool false) ∧ W.cell? ⟨gp, 9, none⟩ = some (.int .i64 m.p.rank) ∧ W.cell? ⟨gp, 10, none⟩ = some (.int .i64 m.p.now)) 23 (by kernel_rfl) (by kernel_rfl) (by kernel_rfl) ?_
          refine EG_take 0 (v := ?v45) (by simp only [List.getElem?_toArray, List.getElem?_cons_succ, List.getElem?_cons_zero]; rfl) (by kernel_rfl) (by kernel_rfl) (by decide) (fun _ _ _ h => h) (Or.inl ⟨by rfl, ?hy45⟩) (KEEP.out _ (ext_drew _)) ?rest45
          case hy45 => intro W hSW; (try dsimp only at hSW); obtain ⟨e0, e1, e2, e3, e4, e5, e6, e7, e8, e9, e10, e11, e12, e13, e14⟩ := hSW; go_simp <;> with_reducible rfl
          try simp only [Act.put, List.setIfInBounds_toArray, List.set_cons_zero, List.set_cons_succ]
          refine EG_take 1 (v := ?v46) (by simp only [List.getElem?_toArray, List.getElem?_cons_succ, List.getElem?_cons_zero]; rfl) (by kernel_rfl) (by kernel_rfl) (by decide) (fun _ _ _ h => h) (Or.inl ⟨by rfl, ?hy46⟩) (KEEP.out _ (ext_drew _)) ?rest46
          case hy46 => intro W hSW; (try dsimp only at hSW); obtain ⟨e0, e1, e2, e3, e4, e5, e6, e7, e8, e9, e10, e11, e12, e13, e14⟩ := hSW; go_simp <;> with_reducible rfl
          try simp only [Act.put, List.setIfInBounds_toArray, List.set_cons_zero, List.set_cons_succ]
          refine EG_take 2 (v := ?v47) (by simp only [List.getElem?_toArray, List.getElem?_cons_succ, List.getElem?_cons_zero]; rfl) (by kernel_rfl) (by kernel_rfl) (by decide) (fun _ _ _ h => h) (Or.inl ⟨by rfl, ?hy47⟩) (KEEP.out _ (ext_drew _)) ?rest47
          case hy47 => intro W hSW; (try dsimp only at hSW); obtain ⟨e0, e1, e2, e3, e4, e5, e6, e7, e8, e9, e10, e11, e12, e13, e14⟩ := hSW; go_simp <;> with_reducible rfl
          try simp only [Act.put, List.setIfInBounds_toArray, List.set_cons_zero, List.set_cons_succ]
          refine EG_take 3 (v := ?v48) (by simp only [List.getElem?_toArray, List.getElem?_cons_succ, List.getElem?_cons_zero]; rfl) (by kernel_rfl) (by kernel_rfl) (by decide) (fun _ _ _ h => h) (Or.inl ⟨by rfl, ?hy48⟩) (KEEP.out _ (ext_drew _)) ?rest48
          case hy48 => intro W hSW; (try dsimp only at hSW); obtain ⟨e0, e1, e2, e3, e4, e5, e6, e7, e8, e9, e10, e11, e12, e13, e14⟩ := hSW; go_simp <;> with_reducible rfl
          try simp only [Act.put, List.setIfInBounds_toArray, List.set_cons_zero, List.set_cons_succ]
          refine EG_take 4 (v := undef) (by simp only [List.getElem?_toArray, List.getElem?_cons_succ, List.getElem?_cons_zero]; rfl) (by kernel_rfl) (by kernel_rfl) (by decide) (fun _ _ _ h => h) (Or.inr ⟨by rfl, rfl⟩) (KEEP.out _ (ext_drew _)) ?rest49
          try simp only [Act.put, List.setIfInBounds_toArray, List.set_cons_zero, List.set_cons_succ]
          refine EG_take 5 (v := undef) (by simp only [List.getElem?_toArray, List.getElem?_cons_succ, List.getElem?_cons_zero]; rfl) (by kernel_rfl) (by kernel_rfl) (by decide) (fun _ _ _ h => h) (Or.inr ⟨by rfl, rfl⟩) (KEEP.out _ (ext_drew _)) ?rest50
          try simp only [Act.put, List.setIfInBounds_toArray, List.set_cons_zero, List.set_cons_succ]
          refine EG_take 6 (v := undef) (by simp only [List.getElem?_toArray, List.getElem?_cons_succ, List.getElem?_cons_zero]; rfl) (by kernel_rfl) (by kernel_rfl) (by decide) (fun _ _ _ h => h) (Or.inr ⟨by rfl, rfl⟩) (KEEP.out _ (ext_drew _)) ?rest51
          try simp only [Act.put, List.setIfInBounds_toArray, List.set_cons_zero, List.set_cons_succ]
          refine EG_take 7 (v := undef) (by simp only [List.getElem?_toArray, List.getElem?_cons_succ, List.getElem?_cons_zero]; rfl) (by kernel_rfl) (by kernel_rfl) (by decide) (fun _ _ _ h => h) (Or.inr ⟨by rfl, rfl⟩) (KEEP.out _ (ext_drew _)) ?rest52
          try simp only [Act.put, List.setIfInBounds_toArray, List.set_cons_zero, List.set_cons_succ]
          refine EG_take 8 (v := undef) (by simp only [List.getElem?_toArray, List.getElem?_cons_succ, List.getElem?_cons_zero]; rfl) (by kernel_rfl) (by kernel_rfl) (by decide) (fun _ _ _ h => h) (Or.inr ⟨by rfl, rfl⟩) (KEEP.out _ (ext_drew _)) ?rest53
          try simp only [Act.put, List.setIfInBounds_toArray, List.set_cons_zero, List.set_cons_succ]
          refine EG_take 9 (v := undef) (by simp only [List.getElem?_toArray, List.getElem?_cons_succ, List.getElem?_cons_zero]; rfl) (by kernel_rfl) (by kernel_rfl) (by decide) (fun _ _ _ h => h) (Or.inr ⟨by rfl, rfl⟩) (KEEP.out _ (ext_drew _)) ?rest54
          try simp only [Act.put, List.setIfInBounds_toArray, List.set_cons_zero, List.set_cons_succ]
          refine EG_take 10 (v := undef) (by simp only [List.getElem?_toArray, List.getElem?_cons_succ, List.getElem?_cons_zero]; rfl) (by kernel_rfl) (by kernel_rfl) (by decide) (fun _ _ _ h => h) (Or.inr ⟨by rfl, rfl⟩) (KEEP.out _ (ext_drew _)) ?rest55
          try simp only [Act.put, List.setIfInBounds_toArray, List.set_cons_zero, List.set_cons_succ]
          refine EG_take 11 (v := undef) (by simp only [List.getElem?_toArray, List.getElem?_cons_succ, List.getElem?_cons_zero]; rfl) (by kernel_rfl) (by kernel_rfl) (by decide) (fun _ _ _ h => h) (Or.inr ⟨by rfl, rfl⟩) (KEEP.out _ (ext_drew _)) ?rest56
          try simp only [Act.put, List.setIfInBounds_toArray, List.set_cons_zero, List.set_cons_succ]
          refine EG_take 12 (v := undef) (by simp only [List.getElem?_toArray, List.getElem?_cons_succ, List.getElem?_cons_zero]; rfl) (by kernel_rfl) (by kernel_rfl) (by decide) (fun _ _ _ h => h) (Or.inr ⟨by rfl, rfl⟩) (KEEP.out _ (ext_drew _)) ?rest57
          try simp only [Act.put, List.setIfInBounds_toArray, List.set_cons_zero, List.set_cons_succ]
          refine EG_take 13 (v := undef) (by simp only [List.getElem?_toArray, List.getElem?_cons_succ, List.getElem?_cons_zero]; rfl) (by kernel_rfl) (by kernel_rfl) (by decide) (fun _ _ _ h => h) (Or.inr ⟨by rfl, rfl⟩) (KEEP.out _ (ext_drew _)) ?rest58
          try simp only [Act.put, List.setIfInBounds_toArray, List.set_cons_zero, List.set_cons_succ]
          refine EG_take 14 (v := undef) (by simp only [List.getElem?_toArray, List.getElem?_cons_succ, List.getElem?_cons_zero]; rfl) (by kernel_rfl) (by kernel_rfl) (by decide) (fun _ _ _ h => h) (Or.inr ⟨by rfl, rfl⟩) (KEEP.out _ (ext_drew _)) ?rest59
          try simp only [Act.put, List.setIfInBounds_toArray, List.set_cons_zero, List.set_cons_succ]
          refine EG_take 15 (v := undef) (by simp only [List.getElem?_toArray, List.getElem?_cons_succ, List.getElem?_cons_zero]; rfl) (by kernel_rfl) (by kernel_rfl) (by decide) (fun _ _ _ h => h) (Or.inr ⟨by rfl, rfl⟩) (KEEP.out _ (ext_drew _)) ?rest60
          try simp only [Act.put, List.setIfInBounds_toArray, List.set_cons_zero, List.set_cons_succ]
          refine EG_take 16 (v := undef) (by simp only [List.getElem?_toArray, List.getElem?_cons_succ, List.getElem?_cons_zero]; rfl) (by kernel_rfl) (by kernel_rfl) (by decide) (fun _ _ _ h => h) (Or.inr ⟨by rfl, rfl⟩) (KEEP.out _ (ext_drew _)) ?rest61
          try simp only [Act.put, List.setIfInBounds_toArray, List.set_cons_zero, List.set_cons_succ]
          refine EG_take 17 (v := undef) (by simp only [List.getElem?_toArray, List.getElem?_cons_succ, List.getElem?_cons_zero]; rfl) (by kernel_rfl) (by kernel_rfl) (by decide) (fun _ _ _ h => h) (Or.inr ⟨by rfl, rfl⟩) (KEEP.out _ (ext_drew _)) ?rest62
          try simp only [Act.put, List.setIfInBounds_toArray, List.set_cons_zero, List.set_cons_succ]
          refine EG_take 18 (v := undef) (by simp only [List.getElem?_toArray, List.getElem?_cons_succ, List.getElem?_cons_zero]; rfl) (by kernel_rfl) (by kernel_rfl) (by decide) (fun _ _ _ h => h) (Or.inr ⟨by rfl, rfl⟩) (KEEP.out _ (ext_drew _)) ?rest63
          try simp only [Act.put, List.setIfInBounds_toArray, List.set_cons_zero, List.set_cons_succ]
          refine EG_take 19 (v := undef) (by simp only [List.getElem?_toArray, List.getElem?_cons_succ, List.getElem?_cons_zero]; rfl) (by kernel_rfl) (by kernel_rfl) (by decide) (fun _ _ _ h => h) (Or.inr ⟨by rfl, rfl⟩) (KEEP.out _ (ext_drew _)) ?rest64
          try simp only [Act.put, List.setIfInBounds_toArray, List.set_cons_zero, List.set_cons_succ]
          refine EG_take 20 (v := undef) (by simp only [List.getElem?_toArray, List.getElem?_cons_succ, List.getElem?_cons_zero]; rfl) (by kernel_rfl) (by kernel_rfl) (by decide) (fun _ _ _ h => h) (Or.inr ⟨by rfl, rfl⟩) (KEEP.out _ (ext_drew _)) ?rest65
          try simp only [Act.put, List.setIfInBounds_toArray, List.set_cons_zero, List.set_cons_succ]
          refine EG_take 21 (v := undef) (by simp only [List.getElem?_toArray, List.getElem?_cons_succ, List.getElem?_cons_zero]; rfl) (by kernel_rfl) (by kernel_rfl) (by decide) (fun _ _ _ h => h) (Or.inr ⟨by rfl, rfl⟩) (KEEP.out _ (ext_drew _)) ?rest66
          try simp only [Act.put, List.setIfInBounds_toArray, List.set_cons_zero, List.set_cons_succ]
          refine EG_take 22 (v := ?v67) (by simp only [List.getElem?_toArray, List.getElem?_cons_succ, List.getElem?_cons_zero]; rfl) (by kernel_rfl) (by kernel_rfl) (by decide) (fun _ _ _ h => h) (Or.inl ⟨by rfl, ?hy67⟩) (KEEP.out _ (ext_drew _)) ?rest67
          case hy67 => intro W hSW; (try dsimp only at hSW); obtain ⟨e0, e1, e2, e3, e4, e5, e6, e7, e8, e9, e10, e11, e12, e13, e14⟩ := hSW; go_simp <;> with_reducible rfl
          try simp only [Act.put, List.setIfInBounds_toArray, List.set_cons_zero, List.set_cons_succ]
          refine EG_end (by kernel_rfl) (by simp only [List.getElem?_toArray, List.getElem?_cons_succ, List.getElem?_cons_zero]; rfl) ?_
          intro K hK0
          have hK := hid hK0
          clear hK0
          go_simp
          refine hK.out _ _ ?_
          clear hK K
          refine NoPanic.normal ?_
          go_wp2_with fail
          go_ret
          exact ⟨rfl, ext_trans XX.out (ext_trans X3.out (ext_drew _))⟩
        | true =>
          obtain ⟨r1, r2, r3, r4⟩ := T4.out rfl
          have RANK : Hid (x.a.rank ≤ m.p.rank) := hid r1
          have d7 : decide (x.a.rank ≤ m.p.rank) = true := by simpa using r1
          have CL := fun W (y : Ext w3 W) => less_in (R3.out.ext y) r2.1 r2.2 r3 (by have := HWFP.out.sttl; exact this.2)
          have HR4 := hid r4
          have HR2 := hid r2
          rw [HPSN.out, HPL.out] at CL
          have CL := hid CL
          clear r1 r2 r3 r4 T4
          go_upto_region 14 with (fail)
          clear v1 v2
          refine wp_region_noPanic ?_
          refine region_E (S := fun W => W.cell? ⟨gf, 1, none⟩ = some (.string fn) ∧ W.cell? ⟨gf, 2, none⟩ = some (.int .i64 f.s.ty) ∧ W.cell? ⟨gf, 3, none⟩ = some (.int .i64 f.s.cl) ∧ W.cell? ⟨gf, 4, none⟩ = some (.int .i64 f.s.ttl) ∧ W.cell? ⟨gf, 5, none⟩ = some (.slice Af fl cf) ∧ W.cell? ⟨gx, 1, none⟩ = some (.int .i64 x.a.now) ∧ W.cell? ⟨gx, 2, none⟩ = some (.int .i64 x.a.rank) ∧ W.cell? ⟨gp, 2, none⟩ = some (.string psn) ∧ W.cell? ⟨gp, 3, none⟩ = some (.int .i64 m.p.s.ty) ∧ W.cell? ⟨gp, 4, none⟩ = some (.int .i64 m.p.s.cl) ∧ W.cell? ⟨gp, 5, none⟩ = some (.int .i64 m.p.s.ttl) ∧ W.cell? ⟨gp, 6, none⟩ = some (.slice m.A pl m.d) ∧ W.cell? ⟨gp, 7, none⟩ = some (.bool true) ∧ W.cell? ⟨gp, 9, none⟩ = some (.int .i64 m.p.rank) ∧ W.cell? ⟨gp, 10, none⟩ = some (.int .i64 m.p.now)) 23 (by kernel_rfl) (by kernel_rfl) (by kernel_rfl) ?_
          refine EG_take 0 (v := ?v68) (by simp only [List.getElem?_toArray, List.getElem?_cons_succ, List.getElem?_cons_zero]; rfl) (by kernel_rfl) (by kernel_rfl) (by decide) (fun _ _ _ h => h) (Or.inl ⟨by rfl, ?hy68⟩) (KEEP.out _ (ext_drew _)) ?rest68
          case hy68 => intro W hSW; (try dsimp only at hSW); obtain ⟨e0, e1, e2, e3, e4, e5, e6, e7, e8, e9, e10, e11, e12, e13, e14⟩ := hSW; go_simp <;> with_reducible rfl
          try simp only [Act.put, List.setIfInBounds_toArray, List.set_cons_zero, List.set_cons_succ]
          refine EG_take 1 (v := ?v69) (by simp only [List.getElem?_toArray, List.getElem?_cons_succ, List.getElem?_cons_zero]; rfl) (by kernel_rfl) (by kernel_rfl) (by decide) (fun _ _ _ h => h) (Or.inl ⟨by rfl, ?hy69⟩) (KEEP.out _ (ext_drew _)) ?rest69
          case hy69 => intro W hSW; (try dsimp only at hSW); obtain ⟨e0, e1, e2, e3, e4, e5, e6, e7, e8, e9, e10, e11, e12, e13, e14⟩ := hSW; go_simp <;> with_reducible rfl
          try simp only [Act.put, List.setIfInBounds_toArray, List.set_cons_zero, List.set_cons_succ]
          refine EG_take 2 (v := ?v70) (by simp only [List.getElem?_toArray, List.getElem?_cons_succ, List.getElem?_cons_zero]; rfl) (by kernel_rfl) (by kernel_rfl) (by decide) (fun _ _ _ h => h) (Or.inl ⟨by rfl, ?hy70⟩) (KEEP.out _ (ext_drew _)) ?rest70
          case hy70 => intro W hSW; (try dsimp only at hSW); obtain ⟨e0, e1, e2, e3, e4, e5, e6, e7, e8, e9, e10, e11, e12, e13, e14⟩ := hSW; go_simp <;> with_reducible rfl
          try simp only [Act.put, List.setIfInBounds_toArray, List.set_cons_zero, List.set_cons_succ]
          refine EG_take 3 (v := ?v71) (by simp only [List.getElem?_toArray, List.getElem?_cons_succ, List.getElem?_cons_zero]; rfl) (by kernel_rfl) (by kernel_rfl) (by decide) (fun _ _ _ h => h) (Or.inl ⟨by rfl, ?hy71⟩) (KEEP.out _ (ext_drew _)) ?rest71
          case hy71 => intro W hSW; (try dsimp only at hSW); obtain ⟨e0, e1, e2, e3, e4, e5, e6, e7, e8, e9, e10, e11, e12, e13, e14⟩ := hSW; go_simp <;> with_reducible rfl
          try simp only [Act.put, List.setIfInBounds_toArray, List.set_cons_zero, List.set_cons_succ]
          refine EG_take 4 (v := ?v72) (by simp only [List.getElem?_toArray, List.getElem?_cons_succ, List.getElem?_cons_zero]; rfl) (by kernel_rfl) (by kernel_rfl) (by decide) (fun _ _ _ h => h) (Or.inl ⟨by rfl, ?hy72⟩) (KEEP.out _ (ext_drew _)) ?rest72
          case hy72 => intro W hSW; (try dsimp only at hSW); obtain ⟨e0, e1, e2, e3, e4, e5, e6, e7, e8, e9, e10, e11, e12, e13, e14⟩ := hSW; go_simp <;> with_reducible rfl
          try simp only [Act.put, List.setIfInBounds_toArray, List.set_cons_zero, List.set_cons_succ]
          refine EG_take 5 (v := ?v73) (by simp only [List.getElem?_toArray, List.getElem?_cons_succ, List.getElem?_cons_zero]; rfl) (by kernel_rfl) (by kernel_rfl) (by decide) (fun _ _ _ h => h) (Or.inl ⟨by rfl, ?hy73⟩) (KEEP.out _ (ext_drew _)) ?rest73
          case hy73 => intro W hSW; (try dsimp only at hSW); obtain ⟨e0, e1, e2, e3, e4, e5, e6, e7, e8, e9, e10, e11, e12, e13, e14⟩ := hSW; go_simp <;> with_reducible rfl
          try simp only [Act.put, List.setIfInBounds_toArray, List.set_cons_zero, List.set_cons_succ]
          refine EG_take 6 (v := ?v74) (by simp only [List.getElem?_toArray, List.getElem?_cons_succ, List.getElem?_cons_zero]; rfl) (by kernel_rfl) (by kernel_rfl) (by decide) (fun _ _ _ h => h) (Or.inl ⟨by rfl, ?hy74⟩) (KEEP.out _ (ext_drew _)) ?rest74
          case hy74 => intro W hSW; (try dsimp only at hSW); obtain ⟨e0, e1, e2, e3, e4, e5, e6, e7, e8, e9, e10, e11, e12, e13, e14⟩ := hSW; go_simp <;> with_reducible rfl
          try simp only [Act.put, List.setIfInBounds_toArray, List.set_cons_zero, List.set_cons_succ]
          refine EG_take 7 (v := ?v75) (by simp only [List.getElem?_toArray, List.getElem?_cons_succ, List.getElem?_cons_zero]; rfl) (by kernel_rfl) (by kernel_rfl) (by decide) (fun _ _ _ h => h) (Or.inl ⟨by rfl, ?hy75⟩) (KEEP.out _ (ext_drew _)) ?rest75
          case hy75 => intro W hSW; (try dsimp only at hSW); obtain ⟨e0, e1, e2, e3, e4, e5, e6, e7, e8, e9, e10, e11, e12, e13, e14⟩ := hSW; go_simp <;> with_reducible rfl
          try simp only [Act.put, List.setIfInBounds_toArray, List.set_cons_zero, List.set_cons_succ]
          refine EG_take 8 (v := ?v76) (by simp only [List.getElem?_toArray, List.getElem?_cons_succ, List.getElem?_cons_zero]; rfl) (by kernel_rfl) (by kernel_rfl) (by decide) (fun _ _ _ h => h) (Or.inl ⟨by rfl, ?hy76⟩) (KEEP.out _ (ext_drew _)) ?rest76
          case hy76 => intro W hSW; (try dsimp only at hSW); obtain ⟨e0, e1, e2, e3, e4, e5, e6, e7, e8, e9, e10, e11, e12, e13, e14⟩ := hSW; go_simp <;> with_reducible rfl
          try simp only [Act.put, List.setIfInBounds_toArray, List.set_cons_zero, List.set_cons_succ]
          refine EG_take 9 (v := ?v77) (by simp only [List.getElem?_toArray, List.getElem?_cons_succ, List.getElem?_cons_zero]; rfl) (by kernel_rfl) (by kernel_rfl) (by decide) (fun _ _ _ h => h) (Or.inl ⟨by rfl, ?hy77⟩) (KEEP.out _ (ext_drew _)) ?rest77
          case hy77 => intro W hSW; (try dsimp only at hSW); obtain ⟨e0, e1, e2, e3, e4, e5, e6, e7, e8, e9, e10, e11, e12, e13, e14⟩ := hSW; go_simp <;> with_reducible rfl
          try simp only [Act.put, List.setIfInBounds_toArray, List.set_cons_zero, List.set_cons_succ]
          refine EG_take 10 (v := ?v78) (by simp only [List.getElem?_toArray, List.getElem?_cons_succ, List.getElem?_cons_zero]; rfl) (by kernel_rfl) (by kernel_rfl) (by decide) (fun _ _ _ h => h) (Or.inl ⟨by rfl, ?hy78⟩) (KEEP.out _ (ext_drew _)) ?rest78
          case hy78 => intro W hSW; (try dsimp only at hSW); obtain ⟨e0, e1, e2, e3, e4, e5, e6, e7, e8, e9, e10, e11, e12, e13, e14⟩ := hSW; go_simp <;> with_reducible rfl
          try simp only [Act.put, List.setIfInBounds_toArray, List.set_cons_zero, List.set_cons_succ]
          refine EG_take 11 (v := ?v79) (by simp only [List.getElem?_toArray, List.getElem?_cons_succ, List.getElem?_cons_zero]; rfl) (by kernel_rfl) (by kernel_rfl) (by decide) (fun _ _ _ h => h) (Or.inl ⟨by rfl, ?hy79⟩) (KEEP.out _ (ext_drew _)) ?rest79
          case hy79 => intro W hSW; (try dsimp only at hSW); obtain ⟨e0, e1, e2, e3, e4, e5, e6, e7, e8, e9, e10, e11, e12, e13, e14⟩ := hSW; go_simp <;> with_reducible rfl
          try simp only [Act.put, List.setIfInBounds_toArray, List.set_cons_zero, List.set_cons_succ]
          refine EG_take 12 (v := ?v80) (by simp only [List.getElem?_toArray, List.getElem?_cons_succ, List.getElem?_cons_zero]; rfl) (by kernel_rfl) (by kernel_rfl) (by decide) (fun _ _ _ h => h) (Or.inl ⟨by rfl, ?hy80⟩) (KEEP.out _ (ext_drew _)) ?rest80
          case hy80 => intro W hSW; (try dsimp only at hSW); obtain ⟨e0, e1, e2, e3, e4, e5, e6, e7, e8, e9, e10, e11, e12, e13, e14⟩ := hSW; go_simp <;> with_reducible rfl
          try simp only [Act.put, List.setIfInBounds_toArray, List.set_cons_zero, List.set_cons_succ]
          refine EG_take 13 (v := ?v81) (by simp only [List.getElem?_toArray, List.getElem?_cons_succ, List.getElem?_cons_zero]; rfl) (by kernel_rfl) (by kernel_rfl) (by decide) (fun _ _ _ h => h) (Or.inl ⟨by rfl, ?hy81⟩) (KEEP.out _ (ext_drew _)) ?rest81
          case hy81 => intro W hSW; (try dsimp only at hSW); obtain ⟨e0, e1, e2, e3, e4, e5, e6, e7, e8, e9, e10, e11, e12, e13, e14⟩ := hSW; go_simp <;> with_reducible rfl
          try simp only [Act.put, List.setIfInBounds_toArray, List.set_cons_zero, List.set_cons_succ]
          refine EG_take 14 (v := ?v82) (by simp only [List.getElem?_toArray, List.getElem?_cons_succ, List.getElem?_cons_zero]; rfl) (by kernel_rfl) (by kernel_rfl) (by decide) (fun _ _ _ h => h) (Or.inl ⟨by rfl, ?hy82⟩) (KEEP.out _ (ext_drew _)) ?rest82
          case hy82 => intro W hSW; (try dsimp only at hSW); obtain ⟨e0, e1, e2, e3, e4, e5, e6, e7, e8, e9, e10, e11, e12, e13, e14⟩ := hSW; go_simp <;> with_reducible rfl
          try simp only [Act.put, List.setIfInBounds_toArray, List.set_cons_zero, List.set_cons_succ]
          refine EG_take 15 (v := ?v83) (by simp only [List.getElem?_toArray, List.getElem?_cons_succ, List.getElem?_cons_zero]; rfl) (by kernel_rfl) (by kernel_rfl) (by decide) (fun _ _ _ h => h) (Or.inl ⟨by rfl, ?hy83⟩) (KEEP.out _ (ext_drew _)) ?rest83
          case hy83 => intro W hSW; (try dsimp only at hSW); obtain ⟨e0, e1, e2, e3, e4, e5, e6, e7, e8, e9, e10, e11, e12, e13, e14⟩ := hSW; go_simp <;> with_reducible rfl
          try simp only [Act.put, List.setIfInBounds_toArray, List.set_cons_zero, List.set_cons_succ]
          refine EG_take 16 (v := ?v84) (by simp only [List.getElem?_toArray, List.getElem?_cons_succ, List.getElem?_cons_zero]; rfl) (by kernel_rfl) (by kernel_rfl) (by decide) (fun _ _ _ h => h) (Or.inl ⟨by rfl, ?hy84⟩) (KEEP.out _ (ext_drew _)) ?rest84
          case hy84 => intro W hSW; (try dsimp only at hSW); obtain ⟨e0, e1, e2, e3, e4, e5, e6, e7, e8, e9, e10, e11, e12, e13, e14⟩ := hSW; go_simp <;> with_reducible rfl
          try simp only [Act.put, List.setIfInBounds_toArray, List.set_cons_zero, List.set_cons_succ]
          refine EG_take 17 (v := ?v85) (by simp only [List.getElem?_toArray, List.getElem?_cons_succ, List.getElem?_cons_zero]; rfl) (by kernel_rfl) (by kernel_rfl) (by decide) (fun _ _ _ h => h) (Or.inl ⟨by rfl, ?hy85⟩) (KEEP.out _ (ext_drew _)) ?rest85
          case hy85 => intro W hSW; (try dsimp only at hSW); obtain ⟨e0, e1, e2, e3, e4, e5, e6, e7, e8, e9, e10, e11, e12, e13, e14⟩ := hSW; go_simp <;> with_reducible rfl
          try simp only [Act.put, List.setIfInBounds_toArray, List.set_cons_zero, List.set_cons_succ]
          refine EG_take 18 (v := ?v86) (by simp only [List.getElem?_toArray, List.getElem?_cons_succ, List.getElem?_cons_zero]; rfl) (by kernel_rfl) (by kernel_rfl) (by decide) (fun _ _ _ h => h) (Or.inl ⟨by rfl, ?hy86⟩) (KEEP.out _ (ext_drew _)) ?rest86
          case hy86 => intro W hSW; (try dsimp only at hSW); obtain ⟨e0, e1, e2, e3, e4, e5, e6, e7, e8, e9, e10, e11, e12, e13, e14⟩ := hSW; go_simp <;> with_reducible rfl
          try simp only [Act.put, List.setIfInBounds_toArray, List.set_cons_zero, List.set_cons_succ]
          refine EG_one 19 (by kernel_rfl) (by simp only [List.getElem?_toArray, List.getElem?_cons_succ, List.getElem?_cons_zero]; rfl) (by decide) ?_
          intro K hK0
          have hK := hid hK0
          clear hK0
          go_simp
          refine (CL.out _ (ext_drew _)).mono ?_
          rintro e w5 ⟨A5, c5, rfl, o5, x5⟩
          rw [HPSN.out, HPL.out]
          have X5 : Hid (Ext w3 w5) := hid (ext_trans (ext_drew _) x5)
          have CS : Hid (Calls Try.prog 28 #[.agg #[.string fn, .int .i64 f.s.ty, .int .i64 f.s.cl, .int .i64 f.s.ttl, .slice Af fl cf], .agg #[.string psn, .int .i64 m.p.s.ty, .int .i64 m.p.s.cl, .int .i64 (m.p.s.ttl - dn), .slice A5 pl c5]] w5 fun e w' => e = .returned (.bool true) ∧ Ext w5 w') := hid (by
            have hs : f.s.nm = m.p.s.nm ∧ f.s.ty = m.p.s.ty ∧ f.s.cl = m.p.s.cl ∧ f.s.ttl = m.p.s.ttl - dn ∧ f.s.data = m.p.s.data := by rw [HR4.out]; exact ⟨rfl, rfl, rfl, rfl, rfl⟩
            obtain ⟨s1, s2, s3, s4, s5⟩ := hs
            have h1 := same_set (s := f.s) (A := Af) (ca := cf) (B := A5) (cb := c5) (RF.out.ext (ext_trans X3.out X5.out)) (by rw [s5]; exact o5.rd) (by rw [s5]; exact HR2.out.2)
            rw [HFN.out, HFL.out] at h1
            have e5 : fl = pl := by rw [← HFL.out, ← HPL.out, s5]
            have e6 : fn = psn := by rw [← HFN.out, ← HPSN.out, s1]
            rw [← e5, ← e6, ← s2, ← s3, ← s4]
            exact h1)
          clear o5 x5
          go_simp
          refine hK.out _ _ (KEEP.out _ X5.out) ?_
          clear hK K
          try simp only [Act.put, List.setIfInBounds_toArray, List.set_cons_zero, List.set_cons_succ]
          refine EG_one 20 (by kernel_rfl) (by simp only [List.getElem?_toArray, List.getElem?_cons_succ, List.getElem?_cons_zero]; rfl) (by decide) ?_
          intro K hK0
          have hK := hid hK0
          clear hK0
          go_simp
          refine CS.out.mono ?_
          rintro e w7 ⟨rfl, x7⟩
          have X7 : Hid (Ext w3 w7) := hid (ext_trans X5.out x7)
          clear x7 CS
          go_simp
          refine hK.out _ _ (KEEP.out _ X7.out) ?_
          clear hK K
          try simp only [Act.put, List.setIfInBounds_toArray, List.set_cons_zero, List.set_cons_succ]
          refine EG_take 21 (v := ?v87) (by simp only [List.getElem?_toArray, List.getElem?_cons_succ, List.getElem?_cons_zero]; rfl) (by kernel_rfl) (by kernel_rfl) (by decide) (fun _ _ _ h => h) (Or.inl ⟨by rfl, ?hy87⟩) (KEEP.out _ X7.out) ?rest87
          case hy87 => intro W hSW; (try dsimp only at hSW); obtain ⟨e0, e1, e2, e3, e4, e5, e6, e7, e8, e9, e10, e11, e12, e13, e14⟩ := hSW; go_simp <;> with_reducible rfl
          try simp only [Act.put, List.setIfInBounds_toArray, List.set_cons_zero, List.set_cons_succ]
          refine EG_take 22 (v := ?v88) (by simp only [List.getElem?_toArray, List.getElem?_cons_succ, List.getElem?_cons_zero]; rfl) (by kernel_rfl) (by kernel_rfl) (by decide) (fun _ _ _ h => h) (Or.inl ⟨by rfl, ?hy88⟩) (KEEP.out _ X7.out) ?rest88
          case hy88 => intro W hSW; (try dsimp only at hSW); obtain ⟨e0, e1, e2, e3, e4, e5, e6, e7, e8, e9, e10, e11, e12, e13, e14⟩ := hSW; go_simp <;> with_reducible rfl
          try simp only [Act.put, List.setIfInBounds_toArray, List.set_cons_zero, List.set_cons_succ]
          refine EG_end (by kernel_rfl) (by simp only [List.getElem?_toArray, List.getElem?_cons_succ, List.getElem?_cons_zero]; rfl) ?_
          intro K hK0
          have hK := hid hK0
          clear hK0
          go_simp
          refine hK.out _ _ ?_
          clear hK K
          refine NoPanic.normal ?_
          go_wp2_with fail
          go_ret
          exact ⟨rfl, ext_trans XX.out (ext_trans X3.out X7.out)⟩
      · have hlt : i < k := by omega
        have hnh := HNO.out k hlt hkn
        rw [HME.out, HKD.out, HEK.out] at hnh
        have hk1 : (k : Int) - 1 = ((k - 1 : Nat) : Int) := by omega
        have REL : ToRel wb i n (.int .i64 ((k : Int) - 1)) w3 := ⟨k - 1, by omega, by omega, by rw [hk1], X3.out⟩
        have REL := hid REL
        clear hk1
        cases sb with
        | false =>
          clear hnh
          go_wp2_with fail
          go_roundw
          case rel => exact REL.out
          case measure => simp [intOf]; omega
        | true =>
          have e2 : m.p.kind ≠ x.a.type := fun e => hnh ⟨HSB.out, e⟩
          have d2 : (m.p.kind == x.a.type) = false := by simpa using e2
          have d2' : (m.p.kind != x.a.type) = true := by simpa using e2
          clear hnh e2
          go_wp2_with fail
          go_roundw
          case rel => exact REL.out
          case measure => simp [intOf]; omega
end Go.Proofs.Ytcddfenhkljpeaa

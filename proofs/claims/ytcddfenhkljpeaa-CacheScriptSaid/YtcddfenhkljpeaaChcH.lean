import Derived.Test.YtcddfenhkljpeaaChcG
/- Layer 23: Get. (Printed by gen_chch.py.) -/
namespace Go.Proofs.Ytcddfenhkljpeaa
open Go.BK Go.BK.CH Go.BK.NM Go.RowKit Go.Maps
set_option linter.unusedVariables false
set_option linter.unusedSimpArgs false
def tmax (a b : Int) : Int := if a < b then b else a
theorem tmax_range {a b : Int} (ha : 0 ≤ a ∧ a ≤ 1099511627776) (hb : inTime b) : 0 ≤ tmax a b ∧ tmax a b ≤ 1099511627776 := by
  unfold tmax inTime at *
  split <;> omega
section
variable {w w' w5 w6 : World} {g og mb : Nat} {most now : Int} {R P1 P2 : List Row} {r : Row}
def GetKD (w w' : World) (g og mb : Nat) (most now : Int) (P1 P2 : List Row) (r : Row) (s : SetS) (left : Int) (e : Ending) : Prop :=
  ∃ A' c', e = .returned (.agg #[.int .i64 1, .string (str s.nm), .int .i64 s.ty, .int .i64 s.cl, .int .i64 left, .slice A' s.data.length c', .int .i64 left]) ∧ OwnG isT w' w.heap.size 9 1 A' s.data.length c' (tvs s.data) ∧ CacM w' g og mb most now (backR P1 P2 r) ∧ Shy (wrC g og mb (P1 ++ r :: P2)) w w'
def LvNo (R : List Row) (n : List UInt8) (k now : Int) : Prop := (∀ r ∈ R, ¬ r.is n k) ∨ ∃ P1 r P2, R = P1 ++ r :: P2 ∧ r.n = n ∧ r.k = k ∧ r.x.till ≤ now
theorem live_nil (h : CacM w g og mb most now R) {n : List UInt8} {k : Int} (hwf : ∀ r ∈ R, wfN r.n r.k) (hd : DiffR R) (hk : wfN n k) (hl : LvNo R n k now) :
    Calls Try.prog 37 #[pt g, .agg #[.string (str n), .int .i64 k]] w fun e w' => e = .returned .nilIface ∧ Ext w w' := by
  rcases hl with hno | ⟨P1, r, P2, rfl, rfl, rfl, ht⟩
  · exact live_no h hwf hk hno
  · exact live_over h hwf hd ht
set_option maxHeartbeats 4000000 in
set_option maxRecDepth 100000 in
theorem get_known (h : CacB w g og mb most now R) {n : List UInt8} {kind rank at_ : Int} (hn : n.length ≤ 2000000) (hc : checkS n = 0) (hat : inTime at_) (hki : -9223372036854775808 ≤ kind ∧ kind ≤ 9223372036854775807) (hR : R = P1 ++ r :: P2) (h1 : r.n = lower n) (h2 : r.k = kind) {s : SetS} {rk e0 : Int} (hx : r.x = .known s rk e0) (hsl : 1 ≤ s.data.length ∧ s.data.length ≤ 64) (hlive : tmax now at_ < e0) (hrk : rank ≤ rk) :
    Calls Try.prog 15 #[pt g, .string (str n), .int .i64 kind, .int .i64 rank, .int .i64 at_] w fun e w' => GetKD w w' g og mb most (tmax now at_) P1 P2 r s (e0 - tmax now at_) e := by
  obtain ⟨hM, hO⟩ := h
  obtain ⟨o1, o2, o3, o4, o5, o6, o7⟩ := hO
  have hwf : ∀ s ∈ R, wfN s.n s.k := fun s hs => (o6 s hs).1
  have xa := ext_alloc w (.cells #[.int .i64 0, .string ⟨#[]⟩, .int .i64 0, .int .i64 0, .int .i64 0, .slice none 0 0, .int .i64 0] 37)
  have bf := Blk.new w 37 #[.int .i64 0, .string ⟨#[]⟩, .int .i64 0, .int .i64 0, .int .i64 0, .slice none 0 0, .int .i64 0]
  obtain ⟨wa, hwa⟩ : ∃ wa, w.alloc (.cells #[.int .i64 0, .string ⟨#[]⟩, .int .i64 0, .int .i64 0, .int .i64 0, .slice none 0 0, .int .i64 0] 37) = wa := ⟨_, rfl⟩
  obtain ⟨gF, hgF⟩ : ∃ gF, w.heap.size = gF := ⟨_, rfl⟩
  rw [hwa] at xa bf
  rw [hgF] at bf
  have HM0 := hid hM
  have H1 := hid (hM.ext xa)
  have XA := hid xa
  have BF := hid bf
  have HWA := hid hwa
  have HGF := hid hgF
  have CAB := absent_no H1.out
  have CCH := check_in n wa hn
  rw [hc] at CCH
  have CWI := fun W => within_in at_ W
  rw [decide_eq_true hat] at CWI
  obtain ⟨tm, htm⟩ : ∃ tm, (if now < at_ then at_ else now) = tm := ⟨_, rfl⟩
  have htm2 : tmax now at_ = tm := by unfold tmax; exact htm
  have htr := tmax_range ⟨o3, o4⟩ hat
  rw [htm2] at htr
  have CLO := fun W => lower_in n W hn
  obtain ⟨low, hlow⟩ : ∃ low, lower n = low := ⟨_, rfl⟩
  have hlowl : low.length ≤ 2000000 := by rw [← hlow]; simpa [lower] using hn
  rw [hlow] at CLO
  have hwk : wfN low kind := ⟨hki, hlowl⟩
  have hwk0 : wfN low 0 := ⟨by decide, hlowl⟩
  have HWF := hid hwf
  have HD := hid o7
  have O6 := hid o6
  have HTM2 := hid htm2
  have HLOW := hid hlow
  have HWK := hid hwk
  have HWK0 := hid hwk0
  have CAB := hid CAB
  have CCH := hid CCH
  have CWI := hid CWI
  have CLO := hid CLO
  simp only [pt]
  clear hM xa bf hwa hgF hwf o5 o6 o7 hlow hwk hwk0 htm2 hlowl
  go_enter Try.func15, Try.ntmps15
  go_upto_region 1 with (fail)
  rw [HWA.out, HGF.out]
  go_wp2_with fail
  refine CAB.out.mono ?_
  rintro e _ ⟨rfl, rfl⟩
  go_wp2_with fail
  refine CCH.out.mono ?_
  rintro e w1 ⟨rfl, x1⟩
  have H2 := hid (H1.out.ext x1)
  have B2 := hid (BF.out.ext x1)
  have X1 := hid (ext_trans XA.out x1)
  clear x1
  go_wp2_with fail
  refine (CWI.out _).mono ?_
  rintro e _ ⟨rfl, rfl⟩
  have c1 : w1.cell? ⟨g, 1, none⟩ = some (.int .i64 now) := H2.out.1.cell 1
  have cf := H2.out.1.frozen
  have h3 := H2.out.time tm
  have s3 := set_shy g 1 (.int .i64 tm) w1
  have b3 := B2.out.shy s3 (fun e => by have h1 := HM0.out.1.lt; have h2 := HGF.out; omega)
  obtain ⟨w2, hw2⟩ : ∃ w2, w1.setCell ⟨g, 1, none⟩ (.int .i64 tm) = w2 := ⟨_, rfl⟩
  rw [hw2] at h3 s3 b3
  have HW2 := hid hw2
  have H3 := hid h3
  have B3 := hid b3
  have S3 : Hid (Shy (wrC g og mb R) w w2) := hid ((Shy.of_ext X1.out).trans s3 (fun k _ e => .inl e))
  clear h3 s3 b3 hw2
  go_upto_region 4 with (fail)
  rw [HW2.out]
  clear c1 cf htm
  go_wp2_with fail
  refine (CLO.out _).mono ?_
  rintro e w3 ⟨rfl, x3⟩
  have xk := ext_alloc w3 (.cells #[.string (str low), .int .i64 kind] 77)
  have bk := Blk.new w3 77 #[.string (str low), .int .i64 kind]
  obtain ⟨wk, hwk⟩ : ∃ wk, w3.alloc (.cells #[.string (str low), .int .i64 kind] 77) = wk := ⟨_, rfl⟩
  obtain ⟨gk, hgk⟩ : ∃ gk, w3.heap.size = gk := ⟨_, rfl⟩
  rw [hwk] at xk bk
  rw [hgk] at bk
  have X3 : Hid (Ext w2 wk) := hid (ext_trans x3 xk)
  have H4 := hid (H3.out.ext X3.out)
  have B4 := hid (B3.out.ext X3.out)
  have K4 := hid bk
  have HWKK := hid hwk
  have HGK := hid hgk
  have hgk2 : gF < gk := by have h1 := B3.out.lt; have h2 := x3.size; omega
  have S4 : Hid (Shy (wrC g og mb R) w wk) := hid (S3.out.ext X3.out)
  clear x3 xk bk hwk hgk
  go_upto_region 5 with (fail)
  rw [HWKK.out, HGK.out]
  have k0 : wk.cell? ⟨gk, 0, none⟩ = some (.string (str low)) := K4.out.cell 0
  have k1 : wk.cell? ⟨gk, 1, none⟩ = some (.int .i64 kind) := K4.out.cell 1
  simp only [pt] at *
  have e1 : r.n = low := h1.trans HLOW.out
  have hlv : tm < e0 := by rw [← HTM2.out]; exact hlive
  have CL := live_yes (P1 := P1) (r := r) (P2 := P2) (by rw [← hR]; exact H4.out) (by rw [← hR]; exact HWF.out) (by rw [← hR]; exact HD.out) (by rw [hx]; exact hlv)
  have hKV : thV r.x r.A r.c = .iface 84 (.agg #[.string (str s.nm), .int .i64 s.ty, .int .i64 s.cl, .int .i64 s.ttl, .slice r.A s.data.length r.c, .int .i64 rk, .int .i64 e0]) := by rw [hx]; rfl
  rw [hKV, e1, h2] at CL
  simp only [pt] at CL
  have CL := hid CL
  have hasr := fun W => assert_known (.agg #[.string (str s.nm), .int .i64 s.ty, .int .i64 s.cl, .int .i64 s.ttl, .slice r.A s.data.length r.c, .int .i64 rk, .int .i64 e0]) W
  have hro := O6.out r (by rw [hR]; simp)
  have htl := hro.2
  have CU := hid (fun W (x : Ext wk W) => use_known (P1 := P1) (r := r) (P2 := P2) (by rw [← hR]; exact H4.out.ext x) (by rw [← hR]; exact HWF.out) (by rw [← hR]; exact HD.out) hx hsl htr ⟨htl.1, htl.2.1⟩)
  have CU := CU.out
  rw [hKV, e1, h2] at CU
  simp only [pt] at CU
  have CU := hid CU
  have HX := hid hx
  have HKV := hid hKV
  have E1 := hid e1
  have HH2 := hid h2
  have HR := hid hR
  have TLX : Hid (r.x.till = e0) := hid (by rw [hx]; rfl)
  clear hx hKV e1 h2 hR hro htl h1
  obtain ⟨sn, hsn⟩ : ∃ sn, s.data.length = sn := ⟨_, rfl⟩
  rw [hsn] at CL CU hasr
  have HSN := hid hsn
  clear hsn
  go_wp2_with fail
  refine CL.out.mono ?_
  rintro e w5 ⟨rfl, x5⟩
  have xy := ext_alloc w5 (.cells #[.string (str s.nm), .int .i64 s.ty, .int .i64 s.cl, .int .i64 s.ttl, .slice r.A sn r.c, .int .i64 rk, .int .i64 e0] 84)
  have by_ := Blk.new w5 84 #[.string (str s.nm), .int .i64 s.ty, .int .i64 s.cl, .int .i64 s.ttl, .slice r.A sn r.c, .int .i64 rk, .int .i64 e0]
  obtain ⟨w6, hw6⟩ : ∃ w6, w5.alloc (.cells #[.string (str s.nm), .int .i64 s.ty, .int .i64 s.cl, .int .i64 s.ttl, .slice r.A sn r.c, .int .i64 rk, .int .i64 e0] 84) = w6 := ⟨_, rfl⟩
  obtain ⟨gy, hgy⟩ : ∃ gy, w5.heap.size = gy := ⟨_, rfl⟩
  rw [hw6] at xy by_
  rw [hgy] at by_
  have X6 : Hid (Ext wk w6) := hid (ext_trans x5 xy)
  have BY := hid by_
  have HW6 := hid hw6
  have HGY := hid hgy
  clear x5 xy by_ hw6 hgy
  go_upto_region 8 with (fail)
  rw [HW6.out, HGY.out]
  have y5 : w6.cell? ⟨gy, 5, none⟩ = some (.int .i64 rk) := BY.out.cell 5
  have l0 : w6.cell? ⟨gk, 0, none⟩ = some (.string (str low)) := (K4.out.ext X6.out).cell 0
  have l1 : w6.cell? ⟨gk, 1, none⟩ = some (.int .i64 kind) := (K4.out.ext X6.out).cell 1
  go_wp2_with fail
  refine (CU.out w6 X6.out).mono ?_
  rintro e w7 ⟨A', c', rfl, o7, h7, s7⟩
  rw [HSN.out] at o7 ⊢
  rw [TLX.out]
  have hnw : ∀ j, gF ≤ j → ¬ wrC g og mb (P1 ++ r :: P2) j := fun j hj e => by
    have h1 := HM0.out.lt (k := j) (by rw [HR.out]; exact e.to)
    have := HGF.out
    omega
  have B7 := hid ((B4.out.ext X6.out).shy s7 (hnw _ (Nat.le_refl _)))
  have S7 : Hid (Shy (wrC g og mb (P1 ++ r :: P2)) w w7) := hid (((by rw [← HR.out]; exact S4.out : Shy (wrC g og mb (P1 ++ r :: P2)) w wk).ext X6.out).trans s7 (fun k _ e => e))
  have r0 := B7.out.cell
  have rf := B7.out.frozen
  have O7 := hid o7
  have H7 := hid h7
  clear o7 h7 s7 l0 l1 y5
  go_wp2_with fail
  refine bodyPost_ret (v := .agg #[.int .i64 1, .string (str s.nm), .int .i64 s.ty, .int .i64 s.cl, .int .i64 (e0 - tm), .slice A' sn c', .int .i64 (e0 - tm)]) (by simp [results, Try.results15, go_sem, r0]) rfl ?_
  have sh9 : Shy (fun k => k = gF) w7 (((((((w7.setCell ⟨gF, 0, none⟩ (.int .i64 1)).setCell ⟨gF, 1, none⟩ (.string (str s.nm))).setCell ⟨gF, 2, none⟩ (.int .i64 s.ty)).setCell ⟨gF, 3, none⟩ (.int .i64 s.cl)).setCell ⟨gF, 4, none⟩ (.int .i64 (e0 - tm))).setCell ⟨gF, 5, none⟩ (.slice A' sn c')).setCell ⟨gF, 6, none⟩ (.int .i64 (e0 - tm))) := (((((((Shy.refl (U := fun k => k = gF) w7).set (b := gF) (fun _ => rfl) 0 _).set (b := gF) (fun _ => rfl) 1 _).set (b := gF) (fun _ => rfl) 2 _).set (b := gF) (fun _ => rfl) 3 _).set (b := gF) (fun _ => rfl) 4 _).set (b := gF) (fun _ => rfl) 5 _).set (b := gF) (fun _ => rfl) 6 _
  have hnk : ∀ j, ownsC g og mb (backR P1 P2 r) j → ¬ j = gF := fun j hj e => by
    have h1 := HM0.out.lt (k := j) (by rw [HR.out]; exact own_back hj)
    have := HGF.out
    omega
  have hz : w.heap.size ≤ w6.heap.size := by have h1 := S4.out.size; have h2 := X6.out.size; omega
  refine ⟨A', c', (by rw [HSN.out, HTM2.out]), ?_, ?_, S7.out.trans sh9 (fun j hj e => by have := HGF.out; omega)⟩
  · rw [HSN.out]
    refine OwnG.mono (sh9.ownG O7.out (fun k hk e => ?_)) hz
    have h1 := (O7.out.lt k hk).1
    have h2 := B4.out.lt
    have h3 := X6.out.size
    omega
  · rw [HTM2.out]
    exact H7.out.shy sh9 hnk
set_option maxHeartbeats 4000000 in
set_option maxRecDepth 100000 in
theorem get_fail (h : CacB w g og mb most now R) {n : List UInt8} {kind rank at_ : Int} (hn : n.length ≤ 2000000) (hc : checkS n = 0) (hat : inTime at_) (hki : -9223372036854775808 ≤ kind ∧ kind ≤ 9223372036854775807) (hy1 : LvNo R (lower n) kind (tmax now at_)) (hy2 : LvNo R (lower n) 0 (tmax now at_)) :
    Calls Try.prog 15 #[pt g, .string (str n), .int .i64 kind, .int .i64 rank, .int .i64 at_] w fun e w' => e = .returned (.agg #[.int .i64 0, .string ⟨#[]⟩, .int .i64 0, .int .i64 0, .int .i64 0, .slice none 0 0, .int .i64 0]) ∧ CacM w' g og mb most (tmax now at_) R ∧ Shy (wrC g og mb R) w w' := by
  obtain ⟨hM, hO⟩ := h
  obtain ⟨o1, o2, o3, o4, o5, o6, o7⟩ := hO
  have hwf : ∀ s ∈ R, wfN s.n s.k := fun s hs => (o6 s hs).1
  have xa := ext_alloc w (.cells #[.int .i64 0, .string ⟨#[]⟩, .int .i64 0, .int .i64 0, .int .i64 0, .slice none 0 0, .int .i64 0] 37)
  have bf := Blk.new w 37 #[.int .i64 0, .string ⟨#[]⟩, .int .i64 0, .int .i64 0, .int .i64 0, .slice none 0 0, .int .i64 0]
  obtain ⟨wa, hwa⟩ : ∃ wa, w.alloc (.cells #[.int .i64 0, .string ⟨#[]⟩, .int .i64 0, .int .i64 0, .int .i64 0, .slice none 0 0, .int .i64 0] 37) = wa := ⟨_, rfl⟩
  obtain ⟨gF, hgF⟩ : ∃ gF, w.heap.size = gF := ⟨_, rfl⟩
  rw [hwa] at xa bf
  rw [hgF] at bf
  have HM0 := hid hM
  have H1 := hid (hM.ext xa)
  have XA := hid xa
  have BF := hid bf
  have HWA := hid hwa
  have HGF := hid hgF
  have CAB := absent_no H1.out
  have CCH := check_in n wa hn
  rw [hc] at CCH
  have CWI := fun W => within_in at_ W
  rw [decide_eq_true hat] at CWI
  obtain ⟨tm, htm⟩ : ∃ tm, (if now < at_ then at_ else now) = tm := ⟨_, rfl⟩
  have htm2 : tmax now at_ = tm := by unfold tmax; exact htm
  have htr := tmax_range ⟨o3, o4⟩ hat
  rw [htm2] at htr
  have CLO := fun W => lower_in n W hn
  obtain ⟨low, hlow⟩ : ∃ low, lower n = low := ⟨_, rfl⟩
  have hlowl : low.length ≤ 2000000 := by rw [← hlow]; simpa [lower] using hn
  rw [hlow] at CLO
  have hwk : wfN low kind := ⟨hki, hlowl⟩
  have hwk0 : wfN low 0 := ⟨by decide, hlowl⟩
  have HWF := hid hwf
  have HD := hid o7
  have O6 := hid o6
  have HTM2 := hid htm2
  have HLOW := hid hlow
  have HWK := hid hwk
  have HWK0 := hid hwk0
  have CAB := hid CAB
  have CCH := hid CCH
  have CWI := hid CWI
  have CLO := hid CLO
  simp only [pt]
  clear hM xa bf hwa hgF hwf o5 o6 o7 hlow hwk hwk0 htm2 hlowl
  go_enter Try.func15, Try.ntmps15
  go_upto_region 1 with (fail)
  rw [HWA.out, HGF.out]
  go_wp2_with fail
  refine CAB.out.mono ?_
  rintro e _ ⟨rfl, rfl⟩
  go_wp2_with fail
  refine CCH.out.mono ?_
  rintro e w1 ⟨rfl, x1⟩
  have H2 := hid (H1.out.ext x1)
  have B2 := hid (BF.out.ext x1)
  have X1 := hid (ext_trans XA.out x1)
  clear x1
  go_wp2_with fail
  refine (CWI.out _).mono ?_
  rintro e _ ⟨rfl, rfl⟩
  have c1 : w1.cell? ⟨g, 1, none⟩ = some (.int .i64 now) := H2.out.1.cell 1
  have cf := H2.out.1.frozen
  have h3 := H2.out.time tm
  have s3 := set_shy g 1 (.int .i64 tm) w1
  have b3 := B2.out.shy s3 (fun e => by have h1 := HM0.out.1.lt; have h2 := HGF.out; omega)
  obtain ⟨w2, hw2⟩ : ∃ w2, w1.setCell ⟨g, 1, none⟩ (.int .i64 tm) = w2 := ⟨_, rfl⟩
  rw [hw2] at h3 s3 b3
  have HW2 := hid hw2
  have H3 := hid h3
  have B3 := hid b3
  have S3 : Hid (Shy (wrC g og mb R) w w2) := hid ((Shy.of_ext X1.out).trans s3 (fun k _ e => .inl e))
  clear h3 s3 b3 hw2
  go_upto_region 4 with (fail)
  rw [HW2.out]
  clear c1 cf htm
  go_wp2_with fail
  refine (CLO.out _).mono ?_
  rintro e w3 ⟨rfl, x3⟩
  have xk := ext_alloc w3 (.cells #[.string (str low), .int .i64 kind] 77)
  have bk := Blk.new w3 77 #[.string (str low), .int .i64 kind]
  obtain ⟨wk, hwk⟩ : ∃ wk, w3.alloc (.cells #[.string (str low), .int .i64 kind] 77) = wk := ⟨_, rfl⟩
  obtain ⟨gk, hgk⟩ : ∃ gk, w3.heap.size = gk := ⟨_, rfl⟩
  rw [hwk] at xk bk
  rw [hgk] at bk
  have X3 : Hid (Ext w2 wk) := hid (ext_trans x3 xk)
  have H4 := hid (H3.out.ext X3.out)
  have B4 := hid (B3.out.ext X3.out)
  have K4 := hid bk
  have HWKK := hid hwk
  have HGK := hid hgk
  have hgk2 : gF < gk := by have h1 := B3.out.lt; have h2 := x3.size; omega
  have S4 : Hid (Shy (wrC g og mb R) w wk) := hid (S3.out.ext X3.out)
  clear x3 xk bk hwk hgk
  go_upto_region 5 with (fail)
  rw [HWKK.out, HGK.out]
  have k0 : wk.cell? ⟨gk, 0, none⟩ = some (.string (str low)) := K4.out.cell 0
  have k1 : wk.cell? ⟨gk, 1, none⟩ = some (.int .i64 kind) := K4.out.cell 1
  simp only [pt] at *
  have CL := live_nil H4.out HWF.out HD.out HWK.out (by rw [← HTM2.out, ← HLOW.out]; exact hy1)
  simp only [pt] at CL
  have CL := hid CL
  go_wp2_with fail
  refine CL.out.mono ?_
  rintro e w5 ⟨rfl, x5⟩
  have X5 := hid x5
  clear x5 k0 k1
  have bk2 := K4.out.ext X5.out
  have kk1 : w5.cell? ⟨gk, 1, none⟩ = some (.int .i64 kind) := bk2.cell 1
  have kkf := bk2.frozen
  have bk3 := bk2.set_ 1 (.int .i64 0)
  have sk := set_shy gk 1 (.int .i64 0) w5
  obtain ⟨wm, hwm⟩ : ∃ wm, w5.setCell ⟨gk, 1, none⟩ (.int .i64 0) = wm := ⟨_, rfl⟩
  rw [hwm] at bk3 sk
  have hgw : w.heap.size ≤ gk := by have := HGF.out; omega
  have H8 := hid ((H4.out.ext X5.out).shy sk (fun j hj e => by have h1 := HM0.out.lt hj; omega))
  have B8 := hid ((B4.out.ext X5.out).shy sk (fun e => by omega))
  have S8 : Hid (Shy (wrC g og mb R) w wm) := hid ((S4.out.ext X5.out).trans sk (fun j hj e => by omega))
  have m0 : wm.cell? ⟨gk, 0, none⟩ = some (.string (str low)) := by have := bk3.cell 0; simpa using this
  have m1 : wm.cell? ⟨gk, 1, none⟩ = some (.int .i64 0) := by have := bk3.cell 1; simpa using this
  have HWM := hid hwm
  have CL2 := live_nil H8.out HWF.out HD.out HWK0.out (by rw [← HTM2.out, ← HLOW.out]; exact hy2)
  simp only [pt] at CL2
  have CL2 := hid CL2
  clear bk2 bk3 sk hwm
  go_upto_region 11 with (fail)
  rw [HWM.out]
  clear kk1 kkf
  go_wp2_with fail
  refine CL2.out.mono ?_
  rintro e w9 ⟨rfl, x9⟩
  have B9 := hid (B8.out.ext x9)
  have H9 := hid (H8.out.ext x9)
  have S9 := hid (S8.out.ext x9)
  have r0 := B9.out.cell
  have rf := B9.out.frozen
  clear x9 m0 m1
  go_wp2_with fail
  refine bodyPost_ret (v := .agg #[.int .i64 0, .string ⟨#[]⟩, .int .i64 0, .int .i64 0, .int .i64 0, .slice none 0 0, .int .i64 0]) (by simp [results, Try.results15, go_sem, r0]) rfl ?_
  have sh9 : Shy (fun k => k = gF) w9 (((((((w9.setCell ⟨gF, 0, none⟩ (.int .i64 0)).setCell ⟨gF, 1, none⟩ (.string ⟨#[]⟩)).setCell ⟨gF, 2, none⟩ (.int .i64 0)).setCell ⟨gF, 3, none⟩ (.int .i64 0)).setCell ⟨gF, 4, none⟩ (.int .i64 0)).setCell ⟨gF, 5, none⟩ (.slice none 0 0)).setCell ⟨gF, 6, none⟩ (.int .i64 0)) := (((((((Shy.refl (U := fun k => k = gF) w9).set (b := gF) (fun _ => rfl) 0 _).set (b := gF) (fun _ => rfl) 1 _).set (b := gF) (fun _ => rfl) 2 _).set (b := gF) (fun _ => rfl) 3 _).set (b := gF) (fun _ => rfl) 4 _).set (b := gF) (fun _ => rfl) 5 _).set (b := gF) (fun _ => rfl) 6 _
  refine ⟨rfl, ?_, S9.out.trans sh9 (fun j hj e => by have := HGF.out; omega)⟩
  rw [HTM2.out]
  exact H9.out.shy sh9 (fun j hj e => by have h1 := HM0.out.lt hj; have := HGF.out; omega)
set_option maxHeartbeats 4000000 in
set_option maxRecDepth 100000 in
theorem get_low (h : CacB w g og mb most now R) {n : List UInt8} {kind rank at_ : Int} (hn : n.length ≤ 2000000) (hc : checkS n = 0) (hat : inTime at_) (hki : -9223372036854775808 ≤ kind ∧ kind ≤ 9223372036854775807) (hR : R = P1 ++ r :: P2) (h1 : r.n = lower n) (h2 : r.k = kind) {s : SetS} {rk e0 : Int} (hx : r.x = .known s rk e0) (hlive : tmax now at_ < e0) (hrk : ¬ rank ≤ rk) (hy2 : LvNo R (lower n) 0 (tmax now at_)) :
    Calls Try.prog 15 #[pt g, .string (str n), .int .i64 kind, .int .i64 rank, .int .i64 at_] w fun e w' => e = .returned (.agg #[.int .i64 0, .string ⟨#[]⟩, .int .i64 0, .int .i64 0, .int .i64 0, .slice none 0 0, .int .i64 0]) ∧ CacM w' g og mb most (tmax now at_) R ∧ Shy (wrC g og mb R) w w' := by
  obtain ⟨hM, hO⟩ := h
  obtain ⟨o1, o2, o3, o4, o5, o6, o7⟩ := hO
  have hwf : ∀ s ∈ R, wfN s.n s.k := fun s hs => (o6 s hs).1
  have xa := ext_alloc w (.cells #[.int .i64 0, .string ⟨#[]⟩, .int .i64 0, .int .i64 0, .int .i64 0, .slice none 0 0, .int .i64 0] 37)
  have bf := Blk.new w 37 #[.int .i64 0, .string ⟨#[]⟩, .int .i64 0, .int .i64 0, .int .i64 0, .slice none 0 0, .int .i64 0]
  obtain ⟨wa, hwa⟩ : ∃ wa, w.alloc (.cells #[.int .i64 0, .string ⟨#[]⟩, .int .i64 0, .int .i64 0, .int .i64 0, .slice none 0 0, .int .i64 0] 37) = wa := ⟨_, rfl⟩
  obtain ⟨gF, hgF⟩ : ∃ gF, w.heap.size = gF := ⟨_, rfl⟩
  rw [hwa] at xa bf
  rw [hgF] at bf
  have HM0 := hid hM
  have H1 := hid (hM.ext xa)
  have XA := hid xa
  have BF := hid bf
  have HWA := hid hwa
  have HGF := hid hgF
  have CAB := absent_no H1.out
  have CCH := check_in n wa hn
  rw [hc] at CCH
  have CWI := fun W => within_in at_ W
  rw [decide_eq_true hat] at CWI
  obtain ⟨tm, htm⟩ : ∃ tm, (if now < at_ then at_ else now) = tm := ⟨_, rfl⟩
  have htm2 : tmax now at_ = tm := by unfold tmax; exact htm
  have htr := tmax_range ⟨o3, o4⟩ hat
  rw [htm2] at htr
  have CLO := fun W => lower_in n W hn
  obtain ⟨low, hlow⟩ : ∃ low, lower n = low := ⟨_, rfl⟩
  have hlowl : low.length ≤ 2000000 := by rw [← hlow]; simpa [lower] using hn
  rw [hlow] at CLO
  have hwk : wfN low kind := ⟨hki, hlowl⟩
  have hwk0 : wfN low 0 := ⟨by decide, hlowl⟩
  have HWF := hid hwf
  have HD := hid o7
  have O6 := hid o6
  have HTM2 := hid htm2
  have HLOW := hid hlow
  have HWK := hid hwk
  have HWK0 := hid hwk0
  have CAB := hid CAB
  have CCH := hid CCH
  have CWI := hid CWI
  have CLO := hid CLO
  simp only [pt]
  clear hM xa bf hwa hgF hwf o5 o6 o7 hlow hwk hwk0 htm2 hlowl
  go_enter Try.func15, Try.ntmps15
  go_upto_region 1 with (fail)
  rw [HWA.out, HGF.out]
  go_wp2_with fail
  refine CAB.out.mono ?_
  rintro e _ ⟨rfl, rfl⟩
  go_wp2_with fail
  refine CCH.out.mono ?_
  rintro e w1 ⟨rfl, x1⟩
  have H2 := hid (H1.out.ext x1)
  have B2 := hid (BF.out.ext x1)
  have X1 := hid (ext_trans XA.out x1)
  clear x1
  go_wp2_with fail
  refine (CWI.out _).mono ?_
  rintro e _ ⟨rfl, rfl⟩
  have c1 : w1.cell? ⟨g, 1, none⟩ = some (.int .i64 now) := H2.out.1.cell 1
  have cf := H2.out.1.frozen
  have h3 := H2.out.time tm
  have s3 := set_shy g 1 (.int .i64 tm) w1
  have b3 := B2.out.shy s3 (fun e => by have h1 := HM0.out.1.lt; have h2 := HGF.out; omega)
  obtain ⟨w2, hw2⟩ : ∃ w2, w1.setCell ⟨g, 1, none⟩ (.int .i64 tm) = w2 := ⟨_, rfl⟩
  rw [hw2] at h3 s3 b3
  have HW2 := hid hw2
  have H3 := hid h3
  have B3 := hid b3
  have S3 : Hid (Shy (wrC g og mb R) w w2) := hid ((Shy.of_ext X1.out).trans s3 (fun k _ e => .inl e))
  clear h3 s3 b3 hw2
  go_upto_region 4 with (fail)
  rw [HW2.out]
  clear c1 cf htm
  go_wp2_with fail
  refine (CLO.out _).mono ?_
  rintro e w3 ⟨rfl, x3⟩
  have xk := ext_alloc w3 (.cells #[.string (str low), .int .i64 kind] 77)
  have bk := Blk.new w3 77 #[.string (str low), .int .i64 kind]
  obtain ⟨wk, hwk⟩ : ∃ wk, w3.alloc (.cells #[.string (str low), .int .i64 kind] 77) = wk := ⟨_, rfl⟩
  obtain ⟨gk, hgk⟩ : ∃ gk, w3.heap.size = gk := ⟨_, rfl⟩
  rw [hwk] at xk bk
  rw [hgk] at bk
  have X3 : Hid (Ext w2 wk) := hid (ext_trans x3 xk)
  have H4 := hid (H3.out.ext X3.out)
  have B4 := hid (B3.out.ext X3.out)
  have K4 := hid bk
  have HWKK := hid hwk
  have HGK := hid hgk
  have hgk2 : gF < gk := by have h1 := B3.out.lt; have h2 := x3.size; omega
  have S4 : Hid (Shy (wrC g og mb R) w wk) := hid (S3.out.ext X3.out)
  clear x3 xk bk hwk hgk
  go_upto_region 5 with (fail)
  rw [HWKK.out, HGK.out]
  have k0 : wk.cell? ⟨gk, 0, none⟩ = some (.string (str low)) := K4.out.cell 0
  have k1 : wk.cell? ⟨gk, 1, none⟩ = some (.int .i64 kind) := K4.out.cell 1
  simp only [pt] at *
  have e1 : r.n = low := h1.trans HLOW.out
  have hlv : tm < e0 := by rw [← HTM2.out]; exact hlive
  have CL := live_yes (P1 := P1) (r := r) (P2 := P2) (by rw [← hR]; exact H4.out) (by rw [← hR]; exact HWF.out) (by rw [← hR]; exact HD.out) (by rw [hx]; exact hlv)
  have hKV : thV r.x r.A r.c = .iface 84 (.agg #[.string (str s.nm), .int .i64 s.ty, .int .i64 s.cl, .int .i64 s.ttl, .slice r.A s.data.length r.c, .int .i64 rk, .int .i64 e0]) := by rw [hx]; rfl
  rw [hKV, e1, h2] at CL
  simp only [pt] at CL
  have CL := hid CL
  have hasr := fun W => assert_known (.agg #[.string (str s.nm), .int .i64 s.ty, .int .i64 s.cl, .int .i64 s.ttl, .slice r.A s.data.length r.c, .int .i64 rk, .int .i64 e0]) W
  have hro := O6.out r (by rw [hR]; simp)
  have HX := hid hx
  have HKV := hid hKV
  have E1 := hid e1
  have HH2 := hid h2
  have HR := hid hR
  have TLX : Hid (r.x.till = e0) := hid (by rw [hx]; rfl)
  clear hx hKV e1 h2 hR hro h1
  obtain ⟨sn, hsn⟩ : ∃ sn, s.data.length = sn := ⟨_, rfl⟩
  rw [hsn] at CL hasr
  have HSN := hid hsn
  clear hsn
  go_wp2_with fail
  refine CL.out.mono ?_
  rintro e w5 ⟨rfl, x5⟩
  have xy := ext_alloc w5 (.cells #[.string (str s.nm), .int .i64 s.ty, .int .i64 s.cl, .int .i64 s.ttl, .slice r.A sn r.c, .int .i64 rk, .int .i64 e0] 84)
  have by_ := Blk.new w5 84 #[.string (str s.nm), .int .i64 s.ty, .int .i64 s.cl, .int .i64 s.ttl, .slice r.A sn r.c, .int .i64 rk, .int .i64 e0]
  obtain ⟨w6, hw6⟩ : ∃ w6, w5.alloc (.cells #[.string (str s.nm), .int .i64 s.ty, .int .i64 s.cl, .int .i64 s.ttl, .slice r.A sn r.c, .int .i64 rk, .int .i64 e0] 84) = w6 := ⟨_, rfl⟩
  obtain ⟨gy, hgy⟩ : ∃ gy, w5.heap.size = gy := ⟨_, rfl⟩
  rw [hw6] at xy by_
  rw [hgy] at by_
  have X6 : Hid (Ext wk w6) := hid (ext_trans x5 xy)
  have BY := hid by_
  have HW6 := hid hw6
  have HGY := hid hgy
  clear x5 xy by_ hw6 hgy
  go_upto_region 8 with (fail)
  rw [HW6.out, HGY.out]
  have y5 : w6.cell? ⟨gy, 5, none⟩ = some (.int .i64 rk) := BY.out.cell 5
  clear k0 k1
  have bk2 := K4.out.ext X6.out
  have kk1 : w6.cell? ⟨gk, 1, none⟩ = some (.int .i64 kind) := bk2.cell 1
  have kkf := bk2.frozen
  have bk3 := bk2.set_ 1 (.int .i64 0)
  have sk := set_shy gk 1 (.int .i64 0) w6
  obtain ⟨wm, hwm⟩ : ∃ wm, w6.setCell ⟨gk, 1, none⟩ (.int .i64 0) = wm := ⟨_, rfl⟩
  rw [hwm] at bk3 sk
  have hgw : w.heap.size ≤ gk := by have := HGF.out; omega
  have H8 := hid ((H4.out.ext X6.out).shy sk (fun j hj e => by have h1 := HM0.out.lt hj; omega))
  have B8 := hid ((B4.out.ext X6.out).shy sk (fun e => by omega))
  have S8 : Hid (Shy (wrC g og mb R) w wm) := hid ((S4.out.ext X6.out).trans sk (fun j hj e => by omega))
  have m0 : wm.cell? ⟨gk, 0, none⟩ = some (.string (str low)) := by have := bk3.cell 0; simpa using this
  have m1 : wm.cell? ⟨gk, 1, none⟩ = some (.int .i64 0) := by have := bk3.cell 1; simpa using this
  have HWM := hid hwm
  have CL2 := live_nil H8.out HWF.out HD.out HWK0.out (by rw [← HTM2.out, ← HLOW.out]; exact hy2)
  simp only [pt] at CL2
  have CL2 := hid CL2
  clear bk2 bk3 sk hwm
  go_upto_region 11 with (fail)
  rw [HWM.out]
  clear kk1 kkf
  go_wp2_with fail
  refine CL2.out.mono ?_
  rintro e w9 ⟨rfl, x9⟩
  have B9 := hid (B8.out.ext x9)
  have H9 := hid (H8.out.ext x9)
  have S9 := hid (S8.out.ext x9)
  have r0 := B9.out.cell
  have rf := B9.out.frozen
  clear x9 m0 m1
  go_wp2_with fail
  refine bodyPost_ret (v := .agg #[.int .i64 0, .string ⟨#[]⟩, .int .i64 0, .int .i64 0, .int .i64 0, .slice none 0 0, .int .i64 0]) (by simp [results, Try.results15, go_sem, r0]) rfl ?_
  have sh9 : Shy (fun k => k = gF) w9 (((((((w9.setCell ⟨gF, 0, none⟩ (.int .i64 0)).setCell ⟨gF, 1, none⟩ (.string ⟨#[]⟩)).setCell ⟨gF, 2, none⟩ (.int .i64 0)).setCell ⟨gF, 3, none⟩ (.int .i64 0)).setCell ⟨gF, 4, none⟩ (.int .i64 0)).setCell ⟨gF, 5, none⟩ (.slice none 0 0)).setCell ⟨gF, 6, none⟩ (.int .i64 0)) := (((((((Shy.refl (U := fun k => k = gF) w9).set (b := gF) (fun _ => rfl) 0 _).set (b := gF) (fun _ => rfl) 1 _).set (b := gF) (fun _ => rfl) 2 _).set (b := gF) (fun _ => rfl) 3 _).set (b := gF) (fun _ => rfl) 4 _).set (b := gF) (fun _ => rfl) 5 _).set (b := gF) (fun _ => rfl) 6 _
  refine ⟨rfl, ?_, S9.out.trans sh9 (fun j hj e => by have := HGF.out; omega)⟩
  rw [HTM2.out]
  exact H9.out.shy sh9 (fun j hj e => by have h1 := HM0.out.lt hj; have := HGF.out; omega)
end
end Go.Proofs.Ytcddfenhkljpeaa

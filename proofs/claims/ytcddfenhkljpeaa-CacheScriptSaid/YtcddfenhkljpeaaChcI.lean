import Derived.Test.YtcddfenhkljpeaaChcH
/- Layer 23: PutSet. (Printed by gen_chci.py.) -/
namespace Go.Proofs.Ytcddfenhkljpeaa
open Go.BK Go.BK.CH Go.BK.NM Go.RowKit Go.Maps
set_option linter.unusedVariables false
set_option linter.unusedSimpArgs false
theorem pass2 {G : Prop} {P : Nat → World → Prop} (H : Nat → World → Prop) (key : ∀ b c, H b c → P b c) (main : (∀ b c, H b c → P b c) → G) : G := main key
def PutSD (w w' : World) (g og mb : Nat) (most tm : Int) (R R1 : List Row) (s : SetS) (rank : Int) (e : Ending) : Prop :=
  ∃ b A' c', e = .returned (.tuple #[.bool true, .int .i64 0]) ∧ w.heap.size ≤ b ∧ (∀ k, blk A' = some k → w.heap.size ≤ k) ∧ CacM w' g og mb most tm (putR most R1 ⟨lower s.nm, s.ty, .known s rank (tm + s.ttl), b, A', c'⟩) ∧ Shy (wrC g og mb R) w w'
theorem add_nums (tm tt : Int) (h1 : 0 ≤ tm ∧ tm ≤ 1099511627776) (h2 : 0 ≤ tt ∧ tt < 2147483648) : wrap64 (tm + tt) = tm + tt ∧ IntKind.i64.wrap (tm + tt) = tm + tt := ⟨IntWalk.wrap64_in _ (by omega), IntWalk.i64_in _ (by omega)⟩
section
variable {w w' w5 w6 : World} {g og mb : Nat} {most now : Int} {R P1 P2 : List Row} {r : Row}
set_option maxHeartbeats 4000000 in
set_option maxRecDepth 100000 in
theorem putset_top (h : CacB w g og mb most now R) {s : SetS} {A : Option Addr} {c : Nat} (hA : RdG w 1 A s.data.length c (tvs s.data)) (hs : SetOk s) (hcl : s.cl = 1) (hty : s.ty ≠ 0) (htt : 0 < s.ttl) {rank at_ : Int} (hrk : rank = 3) (hat : inTime at_)
    (hAb : ∀ k, blk A = some k → ¬ wrC g og mb R k) :
    Calls Try.prog 14 #[pt g, .agg #[.string (str s.nm), .int .i64 s.ty, .int .i64 s.cl, .int .i64 s.ttl, .slice A s.data.length c], .int .i64 rank, .int .i64 at_] w fun e w' => PutSD w w' g og mb most (tmax now at_) R (outR R (lower s.nm) 0) s 3 e := by
  obtain ⟨hM, hO⟩ := h
  obtain ⟨o1, o2, o3, o4, o5, o6, o7⟩ := hO
  have hwf : ∀ s ∈ R, wfN s.n s.k := fun s hs => (o6 s hs).1
  obtain ⟨sn, hsn⟩ : ∃ sn, s.data.length = sn := ⟨_, rfl⟩
  have CSC := fun W (x : Ext w W) => set_check (s := s) (hA.ext x) hs
  obtain ⟨g1, g2, ⟨g3, g4⟩, ⟨g5, g6⟩, ⟨g7, g8⟩, ⟨g9, g10⟩, g11, g12⟩ := hs
  rw [hsn] at hA CSC g9 g10 ⊢
  have xa := ext_alloc w (.cells #[.string (str s.nm), .int .i64 s.ty, .int .i64 s.cl, .int .i64 s.ttl, .slice A sn c] 30)
  have bs := Blk.new w 30 #[.string (str s.nm), .int .i64 s.ty, .int .i64 s.cl, .int .i64 s.ttl, .slice A sn c]
  obtain ⟨wa, hwa⟩ : ∃ wa, w.alloc (.cells #[.string (str s.nm), .int .i64 s.ty, .int .i64 s.cl, .int .i64 s.ttl, .slice A sn c] 30) = wa := ⟨_, rfl⟩
  obtain ⟨gs, hgs⟩ : ∃ gs, w.heap.size = gs := ⟨_, rfl⟩
  rw [hwa] at xa bs
  rw [hgs] at bs
  have HM0 := hid hM
  have H1 := hid (hM.ext xa)
  have XA := hid xa
  have BS := hid bs
  have HWA := hid hwa
  have HGS := hid hgs
  have CAB := absent_no H1.out
  have CWI := fun W => within_in at_ W
  rw [decide_eq_true hat] at CWI
  obtain ⟨tm, htm⟩ : ∃ tm, (if now < at_ then at_ else now) = tm := ⟨_, rfl⟩
  have htm2 : tmax now at_ = tm := by unfold tmax; exact htm
  have htr := tmax_range ⟨o3, o4⟩ hat
  rw [htm2] at htr
  have CLO := fun W => lower_in s.nm W g2
  obtain ⟨low, hlow⟩ : ∃ low, lower s.nm = low := ⟨_, rfl⟩
  have hlowl : low.length ≤ 2000000 := by rw [← hlow]; simpa [lower] using g2
  rw [hlow] at CLO
  have hwk : wfN low s.ty := ⟨by omega, hlowl⟩
  have hwk0 : wfN low 0 := ⟨by decide, hlowl⟩
  have HWF := hid hwf
  have HD := id (hid o7)
  have O6 := hid o6
  have O5 := hid o5
  have HTM2 := hid htm2
  have HLOW := hid hlow
  have HWK := hid hwk
  have HWK0 := hid hwk0
  have CAB := hid CAB
  have CSC := hid CSC
  have CWI := hid CWI
  have CLO := hid CLO
  have HA := hid hA
  have HSN := hid hsn
  have HAB := hid hAb
  have ic : ((s.cl : Int) == 1) = true := by simpa using hcl
  have ic2 : (s.ty == 0) = false := by simpa using hty
  have ic3 : (s.ttl == 0) = false := by simp; omega
  have HCL := hid hcl
  have HTY := hid hty
  simp only [pt]
  subst hrk
  clear hcl hty
  clear hM xa bs hwa hgs hwf o5 o6 o7 hlow hwk hwk0 htm2 hlowl hA hsn hAb g1 g2 g11 g12
  go_enter Try.func14, Try.ntmps14
  go_upto_region 1 with (fail)
  rw [HWA.out, HGS.out]
  go_wp2_with fail
  refine CAB.out.mono ?_
  rintro e _ ⟨rfl, rfl⟩
  have k0 : wa.cell? ⟨gs, 0, none⟩ = some (.string (str s.nm)) := BS.out.cell 0
  have k1 : wa.cell? ⟨gs, 1, none⟩ = some (.int .i64 s.ty) := BS.out.cell 1
  have k2 : wa.cell? ⟨gs, 2, none⟩ = some (.int .i64 s.cl) := BS.out.cell 2
  have k3 : wa.cell? ⟨gs, 3, none⟩ = some (.int .i64 s.ttl) := BS.out.cell 3
  have k4 : wa.cell? ⟨gs, 4, none⟩ = some (.slice A sn c) := BS.out.cell 4
  go_wp2_with fail
  refine (CSC.out wa XA.out).mono ?_
  rintro e w1 ⟨rfl, x1⟩
  have H2 := hid (H1.out.ext x1)
  have B2 := hid (BS.out.ext x1)
  have X1 := hid (ext_trans XA.out x1)
  have j1 : w1.cell? ⟨gs, 1, none⟩ = some (.int .i64 s.ty) := B2.out.cell 1
  have j2 : w1.cell? ⟨gs, 2, none⟩ = some (.int .i64 s.cl) := B2.out.cell 2
  clear x1 k0 k1 k2 k3 k4
  go_wp2_with fail
  refine (CWI.out _).mono ?_
  rintro e _ ⟨rfl, rfl⟩
  have c1 : w1.cell? ⟨g, 1, none⟩ = some (.int .i64 now) := H2.out.1.cell 1
  have cf := H2.out.1.frozen
  have h3 := H2.out.time tm
  have s3 := set_shy g 1 (.int .i64 tm) w1
  have b3 := B2.out.shy s3 (fun e => by have h1 := HM0.out.1.lt; have h2 := HGS.out; omega)
  obtain ⟨w2, hw2⟩ : ∃ w2, w1.setCell ⟨g, 1, none⟩ (.int .i64 tm) = w2 := ⟨_, rfl⟩
  rw [hw2] at h3 s3 b3
  have HW2 := hid hw2
  have H3 := hid h3
  have B3 := hid b3
  have S3 : Hid (Shy (wrC g og mb R) w w2) := hid ((Shy.of_ext X1.out).trans s3 (fun k _ e => .inl e))
  have j3 : w2.cell? ⟨gs, 3, none⟩ = some (.int .i64 s.ttl) := B3.out.cell 3
  clear h3 s3 b3 hw2
  go_upto_region 6 with (fail)
  rw [HW2.out]
  clear c1 cf htm j1 j2
  go_upto_region 8 with (fail)
  have KEEP : Hid (∀ W, Ext w2 W → W.cell? ⟨gs, 0, none⟩ = some (.string (str s.nm)) ∧ W.cell? ⟨gs, 1, none⟩ = some (.int .i64 s.ty)) := hid (fun W x => ⟨(B3.out.ext x).cell 0, (B3.out.ext x).cell 1⟩)
  apply pass2 (fun gk wX => Ext w2 wX ∧ Blk wX gk 77 #[.string (str low), .int .i64 s.ty] ∧ w2.heap.size ≤ gk)
  case main =>
    intro key
    refine wp_region_noPanic ?_
    refine region_E (S := fun W => W.cell? ⟨gs, 0, none⟩ = some (.string (str s.nm)) ∧ W.cell? ⟨gs, 1, none⟩ = some (.int .i64 s.ty)) 7 (by kernel_rfl) (by kernel_rfl) (by kernel_rfl) ?_
    refine EG_take 0 (v := ?v1) (by simp only [lga, lgb, lgc]; rfl) (by kernel_rfl) (by kernel_rfl) (by decide) (fun _ _ _ h => h) (Or.inl ⟨by rfl, ?hy1⟩) (KEEP.out _ (ext_drew _)) ?rest1
    case hy1 => intro W hSW; (try dsimp only at hSW); obtain ⟨e0, e1⟩ := hSW; go_simp <;> with_reducible rfl
    try simp only [Act.put, lsa, lsb, lsc]
    refine EG_take 1 (v := ?v2) (by simp only [lga, lgb, lgc]; rfl) (by kernel_rfl) (by kernel_rfl) (by decide) (fun _ _ _ h => h) (Or.inl ⟨by rfl, ?hy2⟩) (KEEP.out _ (ext_drew _)) ?rest2
    case hy2 => intro W hSW; (try dsimp only at hSW); obtain ⟨e0, e1⟩ := hSW; go_simp <;> with_reducible rfl
    try simp only [Act.put, lsa, lsb, lsc]
    refine EG_take 3 (v := ?v3) (by simp only [lga, lgb, lgc]; rfl) (by kernel_rfl) (by kernel_rfl) (by decide) (fun _ _ _ h => h) (Or.inl ⟨by rfl, ?hy3⟩) (KEEP.out _ (ext_drew _)) ?rest3
    case hy3 => intro W hSW; (try dsimp only at hSW); obtain ⟨e0, e1⟩ := hSW; go_simp <;> with_reducible rfl
    try simp only [Act.put, lsa, lsb, lsc]
    refine EG_take 4 (v := ?v4) (by simp only [lga, lgb, lgc]; rfl) (by kernel_rfl) (by kernel_rfl) (by decide) (fun _ _ _ h => h) (Or.inl ⟨by rfl, ?hy4⟩) (KEEP.out _ (ext_drew _)) ?rest4
    case hy4 => intro W hSW; (try dsimp only at hSW); obtain ⟨e0, e1⟩ := hSW; go_simp <;> with_reducible rfl
    try simp only [Act.put, lsa, lsb, lsc]
    refine EG_two 2 6 (by kernel_rfl) (by simp only [lga, lgb, lgc]; rfl) (by simp only [lga, lgb, lgc]; rfl) (by decide) (by decide) ?h1 ?h2
    case h1 =>
      intro K hK0
      have hK := hid hK0
      clear hK0
      go_simp
      refine (CLO.out _).mono ?_
      rintro e w4 ⟨rfl, x4⟩
      have X4 : Hid (Ext w2 w4) := hid (ext_trans (ext_drew _) x4)
      clear x4
      go_simp
      refine hK.out _ _ (KEEP.out _ X4.out) ?_
      clear hK K
      try simp only [Act.put, lsa, lsb, lsc]
      refine EG_take 5 (v := ?v5) (by simp only [lga, lgb, lgc]; rfl) (by kernel_rfl) (by kernel_rfl) (by decide) (fun _ _ _ h => h) (Or.inl ⟨by rfl, ?hy5⟩) (KEEP.out _ X4.out) ?rest5
      case hy5 => intro W hSW; (try dsimp only at hSW); obtain ⟨e0, e1⟩ := hSW; go_simp <;> with_reducible rfl
      try simp only [Act.put, lsa, lsb, lsc]
      refine EG_one 6 (by kernel_rfl) (by simp only [lga, lgb, lgc]; rfl) (by decide) ?_
      intro K hK0
      have hK := hid hK0
      clear hK0
      go_simp
      refine hK.out _ _ (KEEP.out _ (ext_trans X4.out (ext_alloc _ _))) ?_
      clear hK K
      try simp only [Act.put, lsa, lsb, lsc]
      refine EG_end (by kernel_rfl) (by simp only [lga, lgb, lgc]; rfl) ?_
      intro K hK0
      have hK := hid hK0
      clear hK0
      go_simp
      refine hK.out _ _ ?_
      clear hK K
      refine NoPanic.normal ?_
      have bk := Blk.new w4 77 #[.string (str low), .int .i64 s.ty]
      have xk := ext_trans X4.out (ext_alloc w4 (.cells #[.string (str low), .int .i64 s.ty] 77))
      have hz := X4.out.size
      generalize hgk : w4.heap.size = gk at *
      generalize hwX : w4.alloc (.cells #[.string (str low), .int .i64 s.ty] 77) = wX at *
      exact key gk wX ⟨xk, bk, hz⟩
    case h2 =>
      intro K hK0
      have hK := hid hK0
      clear hK0
      go_simp
      have xz := ext_trans (ext_drew w2) (ext_alloc w2.drew (.cells #[.string ⟨#[]⟩, .int .i64 0] 77))
      have bz := Blk.new w2.drew 77 #[.string ⟨#[]⟩, .int .i64 0]
      have XZ := hid xz
      have BZ := hid bz
      clear xz bz
      refine hK.out _ _ (KEEP.out _ XZ.out) ?_
      clear hK K
      try simp only [Act.put, lsa, lsb, lsc]
      refine EG_one 2 (by kernel_rfl) (by simp only [lga, lgb, lgc]; rfl) (by decide) ?_
      intro K hK0
      have hK := hid hK0
      clear hK0
      go_simp
      refine (CLO.out _).mono ?_
      rintro e w4 ⟨rfl, x4⟩
      have X4 : Hid (Ext w2 w4) := hid (ext_trans XZ.out x4)
      have B4 : Hid (Blk w4 w2.heap.size 77 #[.string ⟨#[]⟩, .int .i64 0]) := hid (BZ.out.ext x4)
      clear x4
      go_simp
      refine hK.out _ _ (KEEP.out _ X4.out) ?_
      clear hK K
      try simp only [Act.put, lsa, lsb, lsc]
      refine EG_take 5 (v := ?v6) (by simp only [lga, lgb, lgc]; rfl) (by kernel_rfl) (by kernel_rfl) (by decide) (fun _ _ _ h => h) (Or.inl ⟨by rfl, ?hy6⟩) (KEEP.out _ X4.out) ?rest6
      case hy6 => intro W hSW; (try dsimp only at hSW); obtain ⟨e0, e1⟩ := hSW; go_simp <;> with_reducible rfl
      try simp only [Act.put, lsa, lsb, lsc]
      refine EG_end (by kernel_rfl) (by simp only [lga, lgb, lgc]; rfl) ?_
      intro K hK0
      have hK := hid hK0
      clear hK0
      have q0 := B4.out.cell 0
      have q1 := B4.out.cell 1
      have qf := B4.out.frozen
      go_simp
      refine hK.out _ _ ?_
      clear hK K
      refine NoPanic.normal ?_
      have bk : Blk ((w4.setCell ⟨w2.heap.size, 0, none⟩ (.string (str low))).setCell ⟨w2.heap.size, 1, none⟩ (.int .i64 s.ty)) w2.heap.size 77 #[.string (str low), .int .i64 s.ty] := by
        have h1 := (B4.out.set_ 0 (.string (str low))).set_ 1 (.int .i64 s.ty)
        simpa using h1
      have xk : Ext w2 ((w4.setCell ⟨w2.heap.size, 0, none⟩ (.string (str low))).setCell ⟨w2.heap.size, 1, none⟩ (.int .i64 s.ty)) := Below.setCell (Below.setCell X4.out (Nat.le_refl _) _) (Nat.le_refl _) _
      clear q0 q1 qf
      generalize hwX : (w4.setCell ⟨w2.heap.size, 0, none⟩ (.string (str low))).setCell ⟨w2.heap.size, 1, none⟩ (.int .i64 s.ty) = wX at *
      obtain ⟨gk, hgk⟩ : ∃ gk, w2.heap.size = gk := ⟨_, rfl⟩
      have hz : w2.heap.size ≤ gk := by omega
      rw [hgk] at bk ⊢
      exact key gk wX ⟨xk, bk, hz⟩
  case key =>
    rintro gk wX ⟨xX, bk, hgk⟩
    have H5 := hid (H3.out.ext xX)
    have B5 := hid (B3.out.ext xX)
    have K5 := hid bk
    have S5 : Hid (Shy (wrC g og mb R) w wX) := hid (S3.out.ext xX)
    have hgw : w.heap.size ≤ gk := by have h1 := S3.out.size; omega
    have hks : gk ≠ gs := by have h1 := B3.out.lt; omega
    have l0 : wX.cell? ⟨gk, 0, none⟩ = some (.string (str low)) := bk.cell 0
    have CO := out_any H5.out HWF.out HD.out HWK0.out
    simp only [pt] at CO
    have CO := hid CO
    have HGK := hid hgk
    clear xX bk hgk j3
    go_wp2_with fail
    refine CO.out.mono ?_
    rintro e w6 ⟨rfl, h6, s6⟩
    have hnw : ∀ j, w.heap.size ≤ j → ¬ wrC g og mb R j := fun j hj e => by
      have h1 := HM0.out.lt e.to
      omega
    obtain ⟨R1, hR1⟩ : ∃ R1, outR R low 0 = R1 := ⟨_, rfl⟩
    rw [hR1] at h6
    have H6 := hid h6
    have B6 := hid (B5.out.shy s6 (hnw _ (by have := HGS.out; omega)))
    have K6 := hid (K5.out.shy s6 (hnw _ hgw))
    have S6 : Hid (Shy (wrC g og mb R) w w6) := hid (S5.out.trans s6 (fun k _ e => e))
    have RA : Hid (RdG w6 1 A sn c (tvs s.data)) := hid (S6.out.rdG HA.out HAB.out)
    have l4 : w6.cell? ⟨gs, 4, none⟩ = some (.slice A sn c) := B6.out.cell 4
    have hR1s : ∀ r ∈ R1, r ∈ R := fun r hr => by rw [← hR1] at hr; exact outR_sub r hr
    have hR1d : DiffR R1 := by rw [← hR1]; exact outR_diff HD.out
    have hR1l : (R1.length : Int) ≤ most := by
      rw [← hR1]
      have h1 := outR_len (R := R) (n := low) (k := 0)
      have h2 := O5.out
      omega
    have CL := clone_in (L := s.data) (by rw [HSN.out]; exact RA.out) (by rw [HSN.out]; omega) (by rw [HSN.out]; omega)
    rw [HSN.out] at CL
    have CL := hid CL
    have HR1 := hid hR1
    have HR1S := hid hR1s
    have HR1D := hid hR1d
    have HR1L := hid hR1l
    clear h6 s6 hR1 hR1s hR1d hR1l l0
    go_wp2_with fail
    refine CL.out.mono ?_
    rintro e w7 ⟨A', c', rfl, o7, x7⟩
    have b7 := B6.out.ext x7
    have l4' : w7.cell? ⟨gs, 4, none⟩ = some (.slice A sn c) := b7.cell 4
    have lf := b7.frozen
    have b8 : Blk (w7.setCell ⟨gs, 4, none⟩ (.slice A' sn c')) gs 30 #[.string (str s.nm), .int .i64 s.ty, .int .i64 s.cl, .int .i64 s.ttl, .slice A' sn c'] := by
      have h1 := b7.set_ 4 (.slice A' sn c')
      simpa using h1
    have s8 := set_shy gs 4 (.slice A' sn c') w7
    obtain ⟨w8, hw8⟩ : ∃ w8, w7.setCell ⟨gs, 4, none⟩ (.slice A' sn c') = w8 := ⟨_, rfl⟩
    rw [hw8] at b8 s8
    have hgsw : w.heap.size ≤ gs := by have := HGS.out; omega
    have B8 := hid b8
    have K8 := hid ((K6.out.ext x7).shy s8 (fun e => hks e))
    have H8 := hid ((H6.out.ext x7).shy s8 (fun j hj e => by
      have h1 : ownsC g og mb R j := by
        rcases hj with h | h | h | ⟨q, hq, h⟩ | ⟨q, hq, h⟩
        · exact .inl h
        · exact .inr (.inl h)
        · exact .inr (.inr (.inl h))
        · exact .inr (.inr (.inr (.inl ⟨q, HR1S.out q hq, h⟩)))
        · exact .inr (.inr (.inr (.inr ⟨q, HR1S.out q hq, h⟩)))
      have h2 := HM0.out.lt h1
      omega))
    have S8 : Hid (Shy (wrC g og mb R) w w8) := hid ((S6.out.ext x7).trans s8 (fun j hj e => by omega))
    have O8 : Hid (OwnG isT w8 w6.heap.size 9 1 A' sn c' (tvs s.data)) := hid (s8.ownG o7 (fun k hk e => by have h1 := (o7.lt k hk).1; have h2 := B6.out.lt; omega))
    have HW8 := hid hw8
    clear o7 x7 b7 b8 s8 hw8 l4
    go_upto_region 20 with (fail)
    rw [HW8.out]
    have KP : Hid (∀ W, Ext w8 W → W.cell? ⟨gk, 0, none⟩ = some (.string (str low)) ∧ W.cell? ⟨gk, 1, none⟩ = some (.int .i64 s.ty) ∧ W.cell? ⟨gs, 0, none⟩ = some (.string (str s.nm)) ∧ W.cell? ⟨gs, 1, none⟩ = some (.int .i64 s.ty) ∧ W.cell? ⟨gs, 2, none⟩ = some (.int .i64 s.cl) ∧ W.cell? ⟨gs, 3, none⟩ = some (.int .i64 s.ttl) ∧ W.cell? ⟨gs, 4, none⟩ = some (.slice A' sn c') ∧ W.cell? ⟨g, 1, none⟩ = some (.int .i64 tm)) := hid (fun W x => ⟨(K8.out.ext x).cell 0, (K8.out.ext x).cell 1, (B8.out.ext x).cell 0, (B8.out.ext x).cell 1, (B8.out.ext x).cell 2, (B8.out.ext x).cell 3, (B8.out.ext x).cell 4, (H8.out.ext x).1.cell 1⟩)
    obtain ⟨hw64, hw63⟩ := add_nums tm s.ttl htr ⟨g7, g8⟩
    have PI := put_in (H8.out.ext (ext_drew w8)) ⟨o1, o2⟩ HR1L.out (fun r hr => HWF.out r (HR1S.out r hr)) HR1D.out HWK.out (.known s 3 (tm + s.ttl)) A' c' (by
      have h1 := (O8.out.ext (ext_drew w8)).mono (base' := 0) (Nat.zero_le _)
      rw [← HSN.out] at h1
      exact h1) (fun j hj e => by
      have h1 := (O8.out.lt j hj).1
      have h2 := HM0.out.lt (e.sub HR1S.out).to
      have h3 := S6.out.size
      omega)
    unfold thV at PI
    simp only [pt] at PI
    rw [HSN.out, HCL.out] at PI
    have PI := hid PI
    clear l4' lf
    refine wp_region_noPanic ?_
    refine region_E (S := fun W => W.cell? ⟨gk, 0, none⟩ = some (.string (str low)) ∧ W.cell? ⟨gk, 1, none⟩ = some (.int .i64 s.ty) ∧ W.cell? ⟨gs, 0, none⟩ = some (.string (str s.nm)) ∧ W.cell? ⟨gs, 1, none⟩ = some (.int .i64 s.ty) ∧ W.cell? ⟨gs, 2, none⟩ = some (.int .i64 s.cl) ∧ W.cell? ⟨gs, 3, none⟩ = some (.int .i64 s.ttl) ∧ W.cell? ⟨gs, 4, none⟩ = some (.slice A' sn c') ∧ W.cell? ⟨g, 1, none⟩ = some (.int .i64 tm)) 13 (by kernel_rfl) (by kernel_rfl) (by kernel_rfl) ?_
    refine EG_take 0 (v := ?v7) (by simp only [lga, lgb, lgc]; rfl) (by kernel_rfl) (by kernel_rfl) (by decide) (fun _ _ _ h => h) (Or.inl ⟨by rfl, ?hy7⟩) (KP.out _ (ext_drew _)) ?rest7
    case hy7 => intro W hSW; (try dsimp only at hSW); obtain ⟨e0, e1, f0, f1, f2, f3, f4, f5⟩ := hSW; go_simp <;> with_reducible rfl
    try simp only [Act.put, lsa, lsb, lsc]
    refine EG_take 1 (v := ?v8) (by simp only [lga, lgb, lgc]; rfl) (by kernel_rfl) (by kernel_rfl) (by decide) (fun _ _ _ h => h) (Or.inl ⟨by rfl, ?hy8⟩) (KP.out _ (ext_drew _)) ?rest8
    case hy8 => intro W hSW; (try dsimp only at hSW); obtain ⟨e0, e1, f0, f1, f2, f3, f4, f5⟩ := hSW; go_simp <;> with_reducible rfl
    try simp only [Act.put, lsa, lsb, lsc]
    refine EG_take 2 (v := ?v9) (by simp only [lga, lgb, lgc]; rfl) (by kernel_rfl) (by kernel_rfl) (by decide) (fun _ _ _ h => h) (Or.inl ⟨by rfl, ?hy9⟩) (KP.out _ (ext_drew _)) ?rest9
    case hy9 => intro W hSW; (try dsimp only at hSW); obtain ⟨e0, e1, f0, f1, f2, f3, f4, f5⟩ := hSW; go_simp <;> with_reducible rfl
    try simp only [Act.put, lsa, lsb, lsc]
    refine EG_take 3 (v := ?v10) (by simp only [lga, lgb, lgc]; rfl) (by kernel_rfl) (by kernel_rfl) (by decide) (fun _ _ _ h => h) (Or.inl ⟨by rfl, ?hy10⟩) (KP.out _ (ext_drew _)) ?rest10
    case hy10 => intro W hSW; (try dsimp only at hSW); obtain ⟨e0, e1, f0, f1, f2, f3, f4, f5⟩ := hSW; go_simp <;> with_reducible rfl
    try simp only [Act.put, lsa, lsb, lsc]
    refine EG_take 4 (v := ?v11) (by simp only [lga, lgb, lgc]; rfl) (by kernel_rfl) (by kernel_rfl) (by decide) (fun _ _ _ h => h) (Or.inl ⟨by rfl, ?hy11⟩) (KP.out _ (ext_drew _)) ?rest11
    case hy11 => intro W hSW; (try dsimp only at hSW); obtain ⟨e0, e1, f0, f1, f2, f3, f4, f5⟩ := hSW; go_simp <;> with_reducible rfl
    try simp only [Act.put, lsa, lsb, lsc]
    refine EG_take 5 (v := ?v12) (by simp only [lga, lgb, lgc]; rfl) (by kernel_rfl) (by kernel_rfl) (by decide) (fun _ _ _ h => h) (Or.inl ⟨by rfl, ?hy12⟩) (KP.out _ (ext_drew _)) ?rest12
    case hy12 => intro W hSW; (try dsimp only at hSW); obtain ⟨e0, e1, f0, f1, f2, f3, f4, f5⟩ := hSW; go_simp <;> with_reducible rfl
    try simp only [Act.put, lsa, lsb, lsc]
    refine EG_take 6 (v := ?v13) (by simp only [lga, lgb, lgc]; rfl) (by kernel_rfl) (by kernel_rfl) (by decide) (fun _ _ _ h => h) (Or.inl ⟨by rfl, ?hy13⟩) (KP.out _ (ext_drew _)) ?rest13
    case hy13 => intro W hSW; (try dsimp only at hSW); obtain ⟨e0, e1, f0, f1, f2, f3, f4, f5⟩ := hSW; go_simp <;> with_reducible rfl
    try simp only [Act.put, lsa, lsb, lsc]
    refine EG_take 7 (v := ?v14) (by simp only [lga, lgb, lgc]; rfl) (by kernel_rfl) (by kernel_rfl) (by decide) (fun _ _ _ h => h) (Or.inl ⟨by rfl, ?hy14⟩) (KP.out _ (ext_drew _)) ?rest14
    case hy14 => intro W hSW; (try dsimp only at hSW); obtain ⟨e0, e1, f0, f1, f2, f3, f4, f5⟩ := hSW; go_simp <;> with_reducible rfl
    try simp only [Act.put, lsa, lsb, lsc]
    refine EG_take 8 (v := ?v15) (by simp only [lga, lgb, lgc]; rfl) (by kernel_rfl) (by kernel_rfl) (by decide) (fun _ _ _ h => h) (Or.inl ⟨by rfl, ?hy15⟩) (KP.out _ (ext_drew _)) ?rest15
    case hy15 => intro W hSW; (try dsimp only at hSW); obtain ⟨e0, e1, f0, f1, f2, f3, f4, f5⟩ := hSW; go_simp <;> with_reducible rfl
    try simp only [Act.put, lsa, lsb, lsc]
    refine EG_take 9 (v := ?v16) (by simp only [lga, lgb, lgc]; rfl) (by kernel_rfl) (by kernel_rfl) (by decide) (fun _ _ _ h => h) (Or.inl ⟨by rfl, ?hy16⟩) (KP.out _ (ext_drew _)) ?rest16
    case hy16 => intro W hSW; (try dsimp only at hSW); obtain ⟨e0, e1, f0, f1, f2, f3, f4, f5⟩ := hSW; go_simp <;> with_reducible rfl
    try simp only [Act.put, lsa, lsb, lsc]
    refine EG_take 10 (v := ?v17) (by simp only [lga, lgb, lgc]; rfl) (by kernel_rfl) (by kernel_rfl) (by decide) (fun _ _ _ h => h) (Or.inl ⟨by rfl, ?hy17⟩) (KP.out _ (ext_drew _)) ?rest17
    case hy17 => intro W hSW; (try dsimp only at hSW); obtain ⟨e0, e1, f0, f1, f2, f3, f4, f5⟩ := hSW; go_simp <;> with_reducible rfl
    try simp only [Act.put, lsa, lsb, lsc]
    refine EG_take 11 (v := ?v18) (by simp only [lga, lgb, lgc]; rfl) (by kernel_rfl) (by kernel_rfl) (by decide) (fun _ _ _ h => h) (Or.inl ⟨by rfl, ?hy18⟩) (KP.out _ (ext_drew _)) ?rest18
    case hy18 => intro W hSW; (try dsimp only at hSW); obtain ⟨e0, e1, f0, f1, f2, f3, f4, f5⟩ := hSW; go_simp <;> with_reducible rfl
    try simp only [Act.put, lsa, lsb, lsc]
    refine EG_take 12 (v := ?v19) (by simp only [lga, lgb, lgc]; rfl) (by kernel_rfl) (by kernel_rfl) (by decide) (fun _ _ _ h => h) (Or.inl ⟨by rfl, ?hy19⟩) (KP.out _ (ext_drew _)) ?rest19
    case hy19 => intro W hSW; (try dsimp only at hSW); obtain ⟨e0, e1, f0, f1, f2, f3, f4, f5⟩ := hSW; go_simp <;> with_reducible rfl
    try simp only [Act.put, lsa, lsb, lsc]
    refine EG_end (by kernel_rfl) (by simp only [lga, lgb, lgc]; rfl) ?_
    intro K hK0
    have hK := hid hK0
    clear hK0
    go_simp
    refine PI.out.mono ?_
    rintro e w9 ⟨b, rfl, hb, h9, s9⟩
    have H9 := hid h9
    have S9 : Hid (Shy (wrC g og mb R) w w9) := hid ((S8.out.ext (ext_drew w8)).trans s9 (fun k _ e => e.sub HR1S.out))
    have HB : Hid (w.heap.size ≤ b) := hid (by have h1 := S8.out.size; simp at hb; omega)
    clear h9 s9 hb
    go_simp
    refine hK.out _ _ ?_
    clear hK K
    refine NoPanic.normal ?_
    go_wp2_with fail
    go_ret2
    refine ⟨b, A', c', rfl, HB.out, (fun j hj => by have h1 := (O8.out.lt j hj).1; have h3 := S6.out.size; omega), ?_, S9.out⟩
    rw [HTM2.out, HLOW.out, HR1.out]
    exact H9.out
end
end Go.Proofs.Ytcddfenhkljpeaa

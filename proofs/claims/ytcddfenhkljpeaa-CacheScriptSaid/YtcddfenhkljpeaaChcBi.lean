import Derived.Test.YtcddfenhkljpeaaCsE
import Derived.Deep.DeepCutAuto
/- Layer 23: the document's PutSet of a set that may be, of a TTL above 0. (Printed by gen_chcbi.py.) -/
namespace Go.Proofs.Ytcddfenhkljpeaa
open Go.BK Go.BK.CH Go.BK.NM Go.RowKit Go.Maps
set_option linter.unusedVariables false
set_option linter.unusedSimpArgs false
/-- The document's cache, its blocks all in V. -/
def RsV (V : Nat → Prop) (w : World) (g : Nat) (most : Int) (s : StC) : Prop :=
  ∃ A c T, RefC w g most s.now A c T ∧ T.map (·.e) = s.L ∧ V g ∧ (0 < T.length → ∀ k, blk A = some k → V k) ∧ ∀ t ∈ T, 0 < (setOf t.e.x).data.length → ∀ k, blk t.A = some k → V k
theorem putT_sub (most : Int) (T : List TRow) (r : TRow) : ∀ t ∈ putT most T r, t ∈ T ∨ t = r := by
  intro t ht
  have h : t ∈ dropT T (idxT T r.e.n r.e.k) ++ [r] := by
    unfold putT at ht
    split at ht
    · exact List.mem_of_mem_tail ht
    · exact ht
  rcases List.mem_append.1 h with h | h
  · exact .inl (dropT_sub T _ t h)
  · exact .inr (List.mem_singleton.1 h)
theorem cellsT_known (n : List UInt8) (k : Int) (s : SetS) (rk t : Int) (A : Option Addr) (c : Nat) : (cellsT ⟨⟨n, k, .known s rk t⟩, A, c⟩).toArray = #[.string (str n), .int .i64 k, .int .i64 t, .bool true, .string (str s.nm), .int .i64 s.ty, .int .i64 s.cl, .int .i64 s.ttl, .slice A s.data.length c, .int .i64 rk] := rfl
theorem cellsT_none (n : List UInt8) (k t : Int) (A : Option Addr) (c : Nat) : (cellsT ⟨⟨n, k, .none t⟩, A, c⟩).toArray = #[.string (str n), .int .i64 k, .int .i64 t, .bool false, .string ⟨#[]⟩, .int .i64 0, .int .i64 0, .int .i64 0, .slice A 0 c, .int .i64 0] := rfl
def CutP (w0 : World) (g gs : Nat) (most tm : Int) (D : List TRow) (cs : Array Value) (A : Option Addr) (w : World) : Prop :=
  ∃ A6 c6, RefC w g most tm A6 c6 D ∧ Blk w gs 30 cs ∧ Shy (fun k => k = g) w0 w ∧ ∀ k, blk A6 = some k → blk A = some k ∨ w0.heap.size ≤ k
section
variable {w w' : World} {g : Nat} {most now : Int} {A : Option Addr} {c : Nat} {T : List TRow}
set_option maxHeartbeats 4000000 in
set_option maxRecDepth 100000 in
theorem rps_good (h : RefC w g most now A c T) {s : SetS} {A' : Option Addr} {c' : Nat} (hA : RdG w 1 A' s.data.length c' (tvs s.data)) (hn : s.nm.length ≤ 2000000) (hd : ∀ d ∈ s.data, d.length ≤ 65535) {rank at_ : Int} {V : Nat → Prop} (hAg : ∀ k, blk A' = some k → ¬ k = g) (hb : chkS s = 0 ∧ s.cl = 1 ∧ s.ty ≠ 0 ∧ ¬ rank < 1 ∧ ¬ 3 < rank ∧ s.ttl ≠ 0) (hat : inTime at_) (hst : StOk most ⟨now, T.map (·.e)⟩)
    (hV : V g ∧ (0 < T.length → ∀ k, blk A = some k → V k) ∧ ∀ t ∈ T, 0 < (setOf t.e.x).data.length → ∀ k, blk t.A = some k → V k) :
    Calls Try.prog 27 #[pt g, .agg #[.string (str s.nm), .int .i64 s.ty, .int .i64 s.cl, .int .i64 s.ttl, .slice A' s.data.length c'], .int .i64 rank, .int .i64 at_] w fun e w' => e = .returned (.tuple #[.bool (putS most ⟨now, T.map (·.e)⟩ s rank at_).2, .int .i64 0]) ∧ RsV (More V w) w' g most (putS most ⟨now, T.map (·.e)⟩ s rank at_).1 ∧ Shy (fun k => k = g) w w' := by
  have hok := chk_ok hb.1 hn hd
  have hsn1 := hok.2.2.2.2.2.1
  have httl := hok.2.2.2.2.1
  have htr := tmax_range hst.2.1 hat
  obtain ⟨stay, hstay⟩ : ∃ b, stayB T (lower s.nm) s.ty (tmax now at_) rank = b := ⟨_, rfl⟩
  have HST := hid hst
  have HP1 := hid (fun e => putS_stay (most := most) (now := now) (at_ := at_) (rank := rank) (x := s) (T := T) hst.2.2.2.2 (hstay.trans e))
  have HP2 := hid (show stay = false → ∀ r : TRow, r.e = setE s rank (tmax now at_) → putS most ⟨now, T.map (·.e)⟩ s rank at_ = (⟨tmax now at_, (putT most (lowT T (lower s.nm) rank) r).map (·.e)⟩, true) from fun e r hr => putS_go hst.2.2.2.2 hb.2.2.2.2.1 (hstay.trans e) hr)
  obtain ⟨PS, hPS⟩ : ∃ PS, putS most ⟨now, T.map (·.e)⟩ s rank at_ = PS := ⟨_, rfl⟩
  rw [hPS] at HP1 HP2 ⊢
  have HVV := hid hV
  have HLOW := hid (show (lower s.nm).length ≤ 2000000 from by rw [lower_len]; exact hn)
  have HNM := hid hn
  have HDAT := hid hA
  have hTl : T.length ≤ 4096 := by have h1 := hst.2.2.1; have h2 := hst.1; simp only [List.length_map] at h1; omega
  have hm9 := hst.1
  have HRK := hid hb.2.2.2
  have hg9 := hid h.b.lt
  have HAG := hid hAg
  clear hAg
  have CWI := fun W => rtime_in at_ W
  rw [decide_eq_true hat] at CWI
  have CWI := hid CWI
  obtain ⟨tm, htm⟩ : ∃ tm, (if now < at_ then at_ else now) = tm := ⟨_, rfl⟩
  have htm2 : tmax now at_ = tm := by unfold tmax; exact htm
  rw [htm2] at hstay htr HP1 HP2
  obtain ⟨sn, hsn⟩ : ∃ sn, s.data.length = sn := ⟨_, rfl⟩
  have CSC := fun W (x : Ext w W) => ref_set (s := s) (hA.ext x) hn hd
  obtain ⟨q, hq⟩ : ∃ q, chkS s = q := ⟨_, rfl⟩
  rw [hsn] at CSC hsn1 HDAT ⊢
  rw [hq] at CSC hb
  have xa := ext_alloc w (.cells #[.string (str s.nm), .int .i64 s.ty, .int .i64 s.cl, .int .i64 s.ttl, .slice A' sn c'] 30)
  have bs := Blk.new w 30 #[.string (str s.nm), .int .i64 s.ty, .int .i64 s.cl, .int .i64 s.ttl, .slice A' sn c']
  obtain ⟨wa, hwa⟩ : ∃ wa, w.alloc (.cells #[.string (str s.nm), .int .i64 s.ty, .int .i64 s.cl, .int .i64 s.ttl, .slice A' sn c'] 30) = wa := ⟨_, rfl⟩
  obtain ⟨gs, hgs⟩ : ∃ gs, w.heap.size = gs := ⟨_, rfl⟩
  rw [hwa] at xa bs
  rw [hgs] at bs
  have HM0 := hid h
  have H1 := hid (h.ext xa)
  have XA := hid xa
  have BS := hid bs
  have HWA := hid hwa
  have HGS := hid hgs
  have CSC := hid CSC
  have b1 : (q == 0) = true := by simp [hb.1]
  have b2 : (q != 0) = false := by simp [hb.1]
  have b3 : (s.cl == 1) = true := by simp [hb.2.1]
  have b4 : (s.cl != 1) = false := by simp [hb.2.1]
  have b5 : (s.ty == 0) = false := by simpa using hb.2.2.1
  have b6 : decide (rank < 1) = false := by have := hb.2.2.2.1; simp; omega
  have b7 : decide (3 < rank) = false := by have := hb.2.2.2.2.1; simp; omega
  have b8 : (s.ttl == 0) = false := by simpa using hb.2.2.2.2.2
  have NUM : Hid ((1 ≤ sn ∧ sn ≤ 64) ∧ (0 ≤ tm ∧ tm ≤ 1099511627776) ∧ (0 < s.ttl ∧ s.ttl < 2147483648) ∧ (1 ≤ most ∧ most ≤ 4096) ∧ T.length ≤ 4096) := hid ⟨hsn1, htr, ⟨by have := hb.2.2.2.2.2; omega, by omega⟩, hm9, hTl⟩
  have HSTAY := hid hstay
  have HTM := hid htm2
  have HSN := hid hsn
  clear hb htm2 hsn1 hTl
  simp only [pt]
  clear h hst hPS hstay hok htr httl hV hm9 xa bs hwa hgs hA hsn hn hd hq
  go_enter Try.func27, Try.ntmps27
  go_upto_region 1 with (fail)
  rw [HWA.out, HGS.out]
  have k0 : wa.cell? ⟨gs, 0, none⟩ = some (.string (str s.nm)) := BS.out.cell 0
  have k1 : wa.cell? ⟨gs, 1, none⟩ = some (.int .i64 s.ty) := BS.out.cell 1
  have k2 : wa.cell? ⟨gs, 2, none⟩ = some (.int .i64 s.cl) := BS.out.cell 2
  have k3 : wa.cell? ⟨gs, 3, none⟩ = some (.int .i64 s.ttl) := BS.out.cell 3
  have k4 : wa.cell? ⟨gs, 4, none⟩ = some (.slice A' sn c') := BS.out.cell 4
  go_wp2_with fail
  refine (CSC.out wa XA.out).mono ?_
  rintro e w1 ⟨rfl, x1⟩
  have H2 := hid (H1.out.ext x1)
  have B2 := hid (BS.out.ext x1)
  have X1 := hid (ext_trans XA.out x1)
  have j1 : w1.cell? ⟨gs, 1, none⟩ = some (.int .i64 s.ty) := B2.out.cell 1
  have j2 : w1.cell? ⟨gs, 2, none⟩ = some (.int .i64 s.cl) := B2.out.cell 2
  clear x1 k0 k1 k2 k3 k4
  go_wp2_with fail
  refine (CWI.out _).mono ?_
  rintro e _ ⟨rfl, rfl⟩
  have c2 : w1.cell? ⟨g, 2, none⟩ = some (.int .i64 now) := H2.out.b.cell 2
  have cf := H2.out.b.frozen
  have h3 := H2.out.time tm
  have s3 := set_shy g 2 (.int .i64 tm) w1
  have b3' := B2.out.shy s3 (fun e => by have h1 := HM0.out.b.lt; have h2 := HGS.out; omega)
  obtain ⟨w2, hw2⟩ : ∃ w2, w1.setCell ⟨g, 2, none⟩ (.int .i64 tm) = w2 := ⟨_, rfl⟩
  rw [hw2] at h3 s3 b3'
  have HW2 := hid hw2
  have H3 := hid h3
  have S3 : Hid (Shy (fun k => k = g) w w2) := hid ((Shy.of_ext X1.out).trans s3 (fun k _ e => e))
  have B3 := hid b3'
  have j3 : w2.cell? ⟨gs, 3, none⟩ = some (.int .i64 s.ttl) := b3'.cell 3
  clear h3 s3 b3' hw2
  go_upto_region 4 with (fail)
  rw [HW2.out]
  clear c2 cf htm j1 j2
  have j0 : w2.cell? ⟨gs, 0, none⟩ = some (.string (str s.nm)) := B3.out.cell 0
  have j1 : w2.cell? ⟨gs, 1, none⟩ = some (.int .i64 s.ty) := B3.out.cell 1
  go_wp2_with fail
  have AT := at_in H3.out (n := s.nm) (kind := s.ty) HNM.out
  obtain ⟨o1, ho1⟩ : ∃ o1, idxT T (lower s.nm) s.ty = o1 := ⟨_, rfl⟩
  rw [ho1] at AT
  obtain ⟨v1, hv1⟩ : ∃ v, idxV o1 = v := ⟨_, rfl⟩
  rw [hv1] at AT
  have HV1 := hid hv1
  have HO1 := hid ho1
  have IXC := hid (idxT_cases T (lower s.nm) s.ty)
  clear ho1 hv1
  refine AT.mono ?_
  rintro e w4 ⟨rfl, x4⟩
  have H4 := hid (H3.out.ext x4)
  have B4 := hid (B3.out.ext x4)
  have S4 := hid (S3.out.ext x4)
  clear x4 AT j0 j1 j3 B3 H3 S3 B2 H2 H1 BS
  go_upto_region 7 with (fail)
  go_cut [99] (fun v wx => v = .bool stay ∧ Ext w4 wx)
  case first =>
    rcases IXC.out with ⟨hn0, _⟩ | ⟨i, hi, hsi, _⟩
    · have ho : o1 = none := HO1.out.symm.trans hn0
      have hv : v1 = -1 := by rw [← HV1.out, ho]; rfl
      clear HV1 HO1
      subst ho hv
      have HSF : Hid (stay = false) := hid (by rw [← HSTAY.out]; unfold stayB; rw [hn0])
      have KEEP : Hid (∀ W, Ext w4 W → True) := hid (fun _ _ => trivial)
      refine wp_region_noPanic ?_
      refine region_E (S := fun W => True) 43 (by kernel_rfl) (by kernel_rfl) (by kernel_rfl) ?_
      refine EG_take 0 (v := ?v1) (by simp only [lga, lgb, lgc]; rfl) (by kernel_rfl) (by kernel_rfl) (by decide) (fun _ _ _ h => h) (Or.inl ⟨by rfl, ?hy1⟩) (KEEP.out _ (ext_drew _)) ?rest1
      case hy1 => intro W hSW; (try dsimp only at hSW); obtain _ := hSW; go_simp <;> with_reducible rfl
      try simp only [Act.put, lsa, lsb, lsc]
      refine EG_take 1 (v := ?v2) (by simp only [lga, lgb, lgc]; rfl) (by kernel_rfl) (by kernel_rfl) (by decide) (fun _ _ _ h => h) (Or.inl ⟨by rfl, ?hy2⟩) (KEEP.out _ (ext_drew _)) ?rest2
      case hy2 => intro W hSW; (try dsimp only at hSW); obtain _ := hSW; go_simp <;> with_reducible rfl
      try simp only [Act.put, lsa, lsb, lsc]
      refine EG_take 2 (v := ?v3) (by simp only [lga, lgb, lgc]; rfl) (by kernel_rfl) (by kernel_rfl) (by decide) (fun _ _ _ h => h) (Or.inl ⟨by rfl, ?hy3⟩) (KEEP.out _ (ext_drew _)) ?rest3
      case hy3 => intro W hSW; (try dsimp only at hSW); obtain _ := hSW; go_simp <;> with_reducible rfl
      try simp only [Act.put, lsa, lsb, lsc]
      refine EG_take 3 (v := undef) (by simp only [lga, lgb, lgc]; rfl) (by kernel_rfl) (by kernel_rfl) (by decide) (fun _ _ _ h => h) (Or.inr ⟨by rfl, rfl⟩) (KEEP.out _ (ext_drew _)) ?rest4
      try simp only [Act.put, lsa, lsb, lsc]
      refine EG_take 4 (v := undef) (by simp only [lga, lgb, lgc]; rfl) (by kernel_rfl) (by kernel_rfl) (by decide) (fun _ _ _ h => h) (Or.inr ⟨by rfl, rfl⟩) (KEEP.out _ (ext_drew _)) ?rest5
      try simp only [Act.put, lsa, lsb, lsc]
      refine EG_take 5 (v := undef) (by simp only [lga, lgb, lgc]; rfl) (by kernel_rfl) (by kernel_rfl) (by decide) (fun _ _ _ h => h) (Or.inr ⟨by rfl, rfl⟩) (KEEP.out _ (ext_drew _)) ?rest6
      try simp only [Act.put, lsa, lsb, lsc]
      refine EG_take 6 (v := undef) (by simp only [lga, lgb, lgc]; rfl) (by kernel_rfl) (by kernel_rfl) (by decide) (fun _ _ _ h => h) (Or.inr ⟨by rfl, rfl⟩) (KEEP.out _ (ext_drew _)) ?rest7
      try simp only [Act.put, lsa, lsb, lsc]
      refine EG_take 7 (v := undef) (by simp only [lga, lgb, lgc]; rfl) (by kernel_rfl) (by kernel_rfl) (by decide) (fun _ _ _ h => h) (Or.inr ⟨by rfl, rfl⟩) (KEEP.out _ (ext_drew _)) ?rest8
      try simp only [Act.put, lsa, lsb, lsc]
      refine EG_take 8 (v := undef) (by simp only [lga, lgb, lgc]; rfl) (by kernel_rfl) (by kernel_rfl) (by decide) (fun _ _ _ h => h) (Or.inr ⟨by rfl, rfl⟩) (KEEP.out _ (ext_drew _)) ?rest9
      try simp only [Act.put, lsa, lsb, lsc]
      refine EG_take 9 (v := undef) (by simp only [lga, lgb, lgc]; rfl) (by kernel_rfl) (by kernel_rfl) (by decide) (fun _ _ _ h => h) (Or.inr ⟨by rfl, rfl⟩) (KEEP.out _ (ext_drew _)) ?rest10
      try simp only [Act.put, lsa, lsb, lsc]
      refine EG_take 10 (v := undef) (by simp only [lga, lgb, lgc]; rfl) (by kernel_rfl) (by kernel_rfl) (by decide) (fun _ _ _ h => h) (Or.inr ⟨by rfl, rfl⟩) (KEEP.out _ (ext_drew _)) ?rest11
      try simp only [Act.put, lsa, lsb, lsc]
      refine EG_take 11 (v := undef) (by simp only [lga, lgb, lgc]; rfl) (by kernel_rfl) (by kernel_rfl) (by decide) (fun _ _ _ h => h) (Or.inr ⟨by rfl, rfl⟩) (KEEP.out _ (ext_drew _)) ?rest12
      try simp only [Act.put, lsa, lsb, lsc]
      refine EG_take 12 (v := undef) (by simp only [lga, lgb, lgc]; rfl) (by kernel_rfl) (by kernel_rfl) (by decide) (fun _ _ _ h => h) (Or.inr ⟨by rfl, rfl⟩) (KEEP.out _ (ext_drew _)) ?rest13
      try simp only [Act.put, lsa, lsb, lsc]
      refine EG_take 13 (v := undef) (by simp only [lga, lgb, lgc]; rfl) (by kernel_rfl) (by kernel_rfl) (by decide) (fun _ _ _ h => h) (Or.inr ⟨by rfl, rfl⟩) (KEEP.out _ (ext_drew _)) ?rest14
      try simp only [Act.put, lsa, lsb, lsc]
      refine EG_take 14 (v := undef) (by simp only [lga, lgb, lgc]; rfl) (by kernel_rfl) (by kernel_rfl) (by decide) (fun _ _ _ h => h) (Or.inr ⟨by rfl, rfl⟩) (KEEP.out _ (ext_drew _)) ?rest15
      try simp only [Act.put, lsa, lsb, lsc]
      refine EG_take 15 (v := undef) (by simp only [lga, lgb, lgc]; rfl) (by kernel_rfl) (by kernel_rfl) (by decide) (fun _ _ _ h => h) (Or.inr ⟨by rfl, rfl⟩) (KEEP.out _ (ext_drew _)) ?rest16
      try simp only [Act.put, lsa, lsb, lsc]
      refine EG_take 16 (v := ?v17) (by simp only [lga, lgb, lgc]; rfl) (by kernel_rfl) (by kernel_rfl) (by decide) (fun _ _ _ h => h) (Or.inl ⟨by rfl, ?hy17⟩) (KEEP.out _ (ext_drew _)) ?rest17
      case hy17 => intro W hSW; (try dsimp only at hSW); obtain _ := hSW; go_simp <;> with_reducible rfl
      try simp only [Act.put, lsa, lsb, lsc]
      refine EG_take 17 (v := ?v18) (by simp only [lga, lgb, lgc]; rfl) (by kernel_rfl) (by kernel_rfl) (by decide) (fun _ _ _ h => h) (Or.inl ⟨by rfl, ?hy18⟩) (KEEP.out _ (ext_drew _)) ?rest18
      case hy18 => intro W hSW; (try dsimp only at hSW); obtain _ := hSW; go_simp <;> with_reducible rfl
      try simp only [Act.put, lsa, lsb, lsc]
      refine EG_take 18 (v := undef) (by simp only [lga, lgb, lgc]; rfl) (by kernel_rfl) (by kernel_rfl) (by decide) (fun _ _ _ h => h) (Or.inr ⟨by rfl, rfl⟩) (KEEP.out _ (ext_drew _)) ?rest19
      try simp only [Act.put, lsa, lsb, lsc]
      refine EG_take 19 (v := undef) (by simp only [lga, lgb, lgc]; rfl) (by kernel_rfl) (by kernel_rfl) (by decide) (fun _ _ _ h => h) (Or.inr ⟨by rfl, rfl⟩) (KEEP.out _ (ext_drew _)) ?rest20
      try simp only [Act.put, lsa, lsb, lsc]
      refine EG_take 20 (v := ?v21) (by simp only [lga, lgb, lgc]; rfl) (by kernel_rfl) (by kernel_rfl) (by decide) (fun _ _ _ h => h) (Or.inl ⟨by rfl, ?hy21⟩) (KEEP.out _ (ext_drew _)) ?rest21
      case hy21 => intro W hSW; (try dsimp only at hSW); obtain _ := hSW; go_simp <;> with_reducible rfl
      try simp only [Act.put, lsa, lsb, lsc]
      refine EG_take 21 (v := ?v22) (by simp only [lga, lgb, lgc]; rfl) (by kernel_rfl) (by kernel_rfl) (by decide) (fun _ _ _ h => h) (Or.inl ⟨by rfl, ?hy22⟩) (KEEP.out _ (ext_drew _)) ?rest22
      case hy22 => intro W hSW; (try dsimp only at hSW); obtain _ := hSW; go_simp <;> with_reducible rfl
      try simp only [Act.put, lsa, lsb, lsc]
      refine EG_take 22 (v := undef) (by simp only [lga, lgb, lgc]; rfl) (by kernel_rfl) (by kernel_rfl) (by decide) (fun _ _ _ h => h) (Or.inr ⟨by rfl, rfl⟩) (KEEP.out _ (ext_drew _)) ?rest23
      try simp only [Act.put, lsa, lsb, lsc]
      refine EG_take 23 (v := undef) (by simp only [lga, lgb, lgc]; rfl) (by kernel_rfl) (by kernel_rfl) (by decide) (fun _ _ _ h => h) (Or.inr ⟨by rfl, rfl⟩) (KEEP.out _ (ext_drew _)) ?rest24
      try simp only [Act.put, lsa, lsb, lsc]
      refine EG_take 24 (v := undef) (by simp only [lga, lgb, lgc]; rfl) (by kernel_rfl) (by kernel_rfl) (by decide) (fun _ _ _ h => h) (Or.inr ⟨by rfl, rfl⟩) (KEEP.out _ (ext_drew _)) ?rest25
      try simp only [Act.put, lsa, lsb, lsc]
      refine EG_take 25 (v := undef) (by simp only [lga, lgb, lgc]; rfl) (by kernel_rfl) (by kernel_rfl) (by decide) (fun _ _ _ h => h) (Or.inr ⟨by rfl, rfl⟩) (KEEP.out _ (ext_drew _)) ?rest26
      try simp only [Act.put, lsa, lsb, lsc]
      refine EG_take 26 (v := undef) (by simp only [lga, lgb, lgc]; rfl) (by kernel_rfl) (by kernel_rfl) (by decide) (fun _ _ _ h => h) (Or.inr ⟨by rfl, rfl⟩) (KEEP.out _ (ext_drew _)) ?rest27
      try simp only [Act.put, lsa, lsb, lsc]
      refine EG_take 27 (v := undef) (by simp only [lga, lgb, lgc]; rfl) (by kernel_rfl) (by kernel_rfl) (by decide) (fun _ _ _ h => h) (Or.inr ⟨by rfl, rfl⟩) (KEEP.out _ (ext_drew _)) ?rest28
      try simp only [Act.put, lsa, lsb, lsc]
      refine EG_take 28 (v := undef) (by simp only [lga, lgb, lgc]; rfl) (by kernel_rfl) (by kernel_rfl) (by decide) (fun _ _ _ h => h) (Or.inr ⟨by rfl, rfl⟩) (KEEP.out _ (ext_drew _)) ?rest29
      try simp only [Act.put, lsa, lsb, lsc]
      refine EG_take 29 (v := undef) (by simp only [lga, lgb, lgc]; rfl) (by kernel_rfl) (by kernel_rfl) (by decide) (fun _ _ _ h => h) (Or.inr ⟨by rfl, rfl⟩) (KEEP.out _ (ext_drew _)) ?rest30
      try simp only [Act.put, lsa, lsb, lsc]
      refine EG_take 30 (v := undef) (by simp only [lga, lgb, lgc]; rfl) (by kernel_rfl) (by kernel_rfl) (by decide) (fun _ _ _ h => h) (Or.inr ⟨by rfl, rfl⟩) (KEEP.out _ (ext_drew _)) ?rest31
      try simp only [Act.put, lsa, lsb, lsc]
      refine EG_take 31 (v := undef) (by simp only [lga, lgb, lgc]; rfl) (by kernel_rfl) (by kernel_rfl) (by decide) (fun _ _ _ h => h) (Or.inr ⟨by rfl, rfl⟩) (KEEP.out _ (ext_drew _)) ?rest32
      try simp only [Act.put, lsa, lsb, lsc]
      refine EG_take 32 (v := undef) (by simp only [lga, lgb, lgc]; rfl) (by kernel_rfl) (by kernel_rfl) (by decide) (fun _ _ _ h => h) (Or.inr ⟨by rfl, rfl⟩) (KEEP.out _ (ext_drew _)) ?rest33
      try simp only [Act.put, lsa, lsb, lsc]
      refine EG_take 33 (v := undef) (by simp only [lga, lgb, lgc]; rfl) (by kernel_rfl) (by kernel_rfl) (by decide) (fun _ _ _ h => h) (Or.inr ⟨by rfl, rfl⟩) (KEEP.out _ (ext_drew _)) ?rest34
      try simp only [Act.put, lsa, lsb, lsc]
      refine EG_take 34 (v := undef) (by simp only [lga, lgb, lgc]; rfl) (by kernel_rfl) (by kernel_rfl) (by decide) (fun _ _ _ h => h) (Or.inr ⟨by rfl, rfl⟩) (KEEP.out _ (ext_drew _)) ?rest35
      try simp only [Act.put, lsa, lsb, lsc]
      refine EG_take 35 (v := undef) (by simp only [lga, lgb, lgc]; rfl) (by kernel_rfl) (by kernel_rfl) (by decide) (fun _ _ _ h => h) (Or.inr ⟨by rfl, rfl⟩) (KEEP.out _ (ext_drew _)) ?rest36
      try simp only [Act.put, lsa, lsb, lsc]
      refine EG_take 36 (v := undef) (by simp only [lga, lgb, lgc]; rfl) (by kernel_rfl) (by kernel_rfl) (by decide) (fun _ _ _ h => h) (Or.inr ⟨by rfl, rfl⟩) (KEEP.out _ (ext_drew _)) ?rest37
      try simp only [Act.put, lsa, lsb, lsc]
      refine EG_take 37 (v := undef) (by simp only [lga, lgb, lgc]; rfl) (by kernel_rfl) (by kernel_rfl) (by decide) (fun _ _ _ h => h) (Or.inr ⟨by rfl, rfl⟩) (KEEP.out _ (ext_drew _)) ?rest38
      try simp only [Act.put, lsa, lsb, lsc]
      refine EG_take 38 (v := undef) (by simp only [lga, lgb, lgc]; rfl) (by kernel_rfl) (by kernel_rfl) (by decide) (fun _ _ _ h => h) (Or.inr ⟨by rfl, rfl⟩) (KEEP.out _ (ext_drew _)) ?rest39
      try simp only [Act.put, lsa, lsb, lsc]
      refine EG_take 39 (v := undef) (by simp only [lga, lgb, lgc]; rfl) (by kernel_rfl) (by kernel_rfl) (by decide) (fun _ _ _ h => h) (Or.inr ⟨by rfl, rfl⟩) (KEEP.out _ (ext_drew _)) ?rest40
      try simp only [Act.put, lsa, lsb, lsc]
      refine EG_take 40 (v := undef) (by simp only [lga, lgb, lgc]; rfl) (by kernel_rfl) (by kernel_rfl) (by decide) (fun _ _ _ h => h) (Or.inr ⟨by rfl, rfl⟩) (KEEP.out _ (ext_drew _)) ?rest41
      try simp only [Act.put, lsa, lsb, lsc]
      refine EG_take 41 (v := undef) (by simp only [lga, lgb, lgc]; rfl) (by kernel_rfl) (by kernel_rfl) (by decide) (fun _ _ _ h => h) (Or.inr ⟨by rfl, rfl⟩) (KEEP.out _ (ext_drew _)) ?rest42
      try simp only [Act.put, lsa, lsb, lsc]
      refine EG_take 42 (v := undef) (by simp only [lga, lgb, lgc]; rfl) (by kernel_rfl) (by kernel_rfl) (by decide) (fun _ _ _ h => h) (Or.inr ⟨by rfl, rfl⟩) (KEEP.out _ (ext_drew _)) ?rest43
      try simp only [Act.put, lsa, lsb, lsc]
      refine EG_end (by kernel_rfl) (by simp only [lga, lgb, lgc]; rfl) ?_
      intro K hK0
      have hK := hid hK0
      clear hK0
      go_simp
      refine hK.out _ _ ?_
      clear hK K
      refine NoPanic.normal ?_
      go_wp2_with fail
      go_meet
      exact ⟨by rw [HSF.out], ext_drew _⟩
    · have ho : o1 = some i := HO1.out.symm.trans hsi
      have hv : v1 = (i : Int) := by rw [← HV1.out, ho]; rfl
      clear HV1 HO1
      subst ho hv
      obtain ⟨b, o, hA0, hb0, hc0⟩ := H4.out.at_ (by omega)
      obtain ⟨t, htm, htd, ha⟩ := hc0 i hi
      obtain ⟨tl, htl⟩ : ∃ tl, t.e.x.till = tl := ⟨_, rfl⟩
      obtain ⟨ib, hib⟩ : ∃ ib, isOf t.e.x = ib := ⟨_, rfl⟩
      obtain ⟨rk, hrk⟩ : ∃ rk, rankOf t.e.x = rk := ⟨_, rfl⟩
      obtain ⟨n, hn⟩ : ∃ n, T.length = n := ⟨_, rfl⟩
      have hcap := H4.out.r.cap
      have cg : w4.cell? ⟨g, 1, none⟩ = some (.slice A T.length c) := H4.out.b.cell 1
      rw [hA0, hn] at cg
      rw [hn] at hi hcap
      have HSV : Hid (stay = (decide (tm < tl) && (decide (rank < 3) && (!ib || decide (rank < rk))))) := hid (by rw [← HSTAY.out]; unfold stayB; rw [hsi]; simp only; rw [htd]; unfold stayR; rw [htl, hib, hrk])
      have a2 := ha 2 _ rfl
      have a3 := ha 3 _ rfl
      have a9 := ha 9 _ rfl
      rw [htl] at a2
      rw [hib] at a3
      rw [hrk] at a9
      have KEEP : Hid (∀ W, Ext w4 W → W.cell? ⟨g, 1, none⟩ = some (.slice (some ⟨b, o, none⟩) n c) ∧ W.cell? ⟨g, 2, none⟩ = some (.int .i64 tm) ∧ W.cell? ⟨b, o + i * 10 + 2, none⟩ = some (.int .i64 tl) ∧ W.cell? ⟨b, o + i * 10 + 3, none⟩ = some (.bool ib) ∧ W.cell? ⟨b, o + i * 10 + 9, none⟩ = some (.int .i64 rk)) := hid (fun W y => ⟨(y.cell (p := ⟨g, 1, none⟩) H4.out.b.lt).trans cg, (H4.out.b.ext y).cell 2, (y.cell (p := ⟨b, _, none⟩) hb0).trans a2, (y.cell (p := ⟨b, _, none⟩) hb0).trans a3, (y.cell (p := ⟨b, _, none⟩) hb0).trans a9⟩)
      have i1 : (0 : Int) ≤ (i : Int) := by omega
      have hn9 : n ≤ 4096 := by have := NUM.out.2.2.2.2; omega
      clear cg a2 a3 a9 ha hc0 hb0 htl hib hrk hn htd htm hA0 hsi
      by_cases q1 : tm < tl
      · have HQ1 := hid (show decide (tm < tl) = true from by simpa using q1)
        have q1 := HQ1.out
        by_cases q2 : rank < 3
        · have HQ2 := hid (show decide (rank < 3) = true from by simpa using q2)
          have q2 := HQ2.out
          cases ib
          · refine wp_region_noPanic ?_
            refine region_E (S := fun W => W.cell? ⟨g, 1, none⟩ = some (.slice (some ⟨b, o, none⟩) n c) ∧ W.cell? ⟨g, 2, none⟩ = some (.int .i64 tm) ∧ W.cell? ⟨b, o + i * 10 + 2, none⟩ = some (.int .i64 tl) ∧ W.cell? ⟨b, o + i * 10 + 3, none⟩ = some (.bool false) ∧ W.cell? ⟨b, o + i * 10 + 9, none⟩ = some (.int .i64 rk)) 43 (by kernel_rfl) (by kernel_rfl) (by kernel_rfl) ?_
            refine EG_take 0 (v := ?v44) (by simp only [lga, lgb, lgc]; rfl) (by kernel_rfl) (by kernel_rfl) (by decide) (fun _ _ _ h => h) (Or.inl ⟨by rfl, ?hy44⟩) (KEEP.out _ (ext_drew _)) ?rest44
            case hy44 => intro W hSW; (try dsimp only at hSW); obtain ⟨e1, e2, e3, e4, e5⟩ := hSW; go_simp <;> with_reducible rfl
            try simp only [Act.put, lsa, lsb, lsc]
            refine EG_take 1 (v := ?v45) (by simp only [lga, lgb, lgc]; rfl) (by kernel_rfl) (by kernel_rfl) (by decide) (fun _ _ _ h => h) (Or.inl ⟨by rfl, ?hy45⟩) (KEEP.out _ (ext_drew _)) ?rest45
            case hy45 => intro W hSW; (try dsimp only at hSW); obtain ⟨e1, e2, e3, e4, e5⟩ := hSW; go_simp <;> with_reducible rfl
            try simp only [Act.put, lsa, lsb, lsc]
            refine EG_take 2 (v := ?v46) (by simp only [lga, lgb, lgc]; rfl) (by kernel_rfl) (by kernel_rfl) (by decide) (fun _ _ _ h => h) (Or.inl ⟨by rfl, ?hy46⟩) (KEEP.out _ (ext_drew _)) ?rest46
            case hy46 => intro W hSW; (try dsimp only at hSW); obtain ⟨e1, e2, e3, e4, e5⟩ := hSW; go_simp <;> with_reducible rfl
            try simp only [Act.put, lsa, lsb, lsc]
            refine EG_take 3 (v := ?v47) (by simp only [lga, lgb, lgc]; rfl) (by kernel_rfl) (by kernel_rfl) (by decide) (fun _ _ _ h => h) (Or.inl ⟨by rfl, ?hy47⟩) (KEEP.out _ (ext_drew _)) ?rest47
            case hy47 => intro W hSW; (try dsimp only at hSW); obtain ⟨e1, e2, e3, e4, e5⟩ := hSW; go_simp <;> with_reducible rfl
            try simp only [Act.put, lsa, lsb, lsc]
            refine EG_take 4 (v := ?v48) (by simp only [lga, lgb, lgc]; rfl) (by kernel_rfl) (by kernel_rfl) (by decide) (fun _ _ _ h => h) (Or.inl ⟨by rfl, ?hy48⟩) (KEEP.out _ (ext_drew _)) ?rest48
            case hy48 => intro W hSW; (try dsimp only at hSW); obtain ⟨e1, e2, e3, e4, e5⟩ := hSW; go_simp <;> with_reducible rfl
            try simp only [Act.put, lsa, lsb, lsc]
            refine EG_take 5 (v := ?v49) (by simp only [lga, lgb, lgc]; rfl) (by kernel_rfl) (by kernel_rfl) (by decide) (fun _ _ _ h => h) (Or.inl ⟨by rfl, ?hy49⟩) (KEEP.out _ (ext_drew _)) ?rest49
            case hy49 => intro W hSW; (try dsimp only at hSW); obtain ⟨e1, e2, e3, e4, e5⟩ := hSW; go_simp <;> with_reducible rfl
            try simp only [Act.put, lsa, lsb, lsc]
            refine EG_take 6 (v := ?v50) (by simp only [lga, lgb, lgc]; rfl) (by kernel_rfl) (by kernel_rfl) (by decide) (fun _ _ _ h => h) (Or.inl ⟨by rfl, ?hy50⟩) (KEEP.out _ (ext_drew _)) ?rest50
            case hy50 => intro W hSW; (try dsimp only at hSW); obtain ⟨e1, e2, e3, e4, e5⟩ := hSW; go_simp <;> with_reducible rfl
            try simp only [Act.put, lsa, lsb, lsc]
            refine EG_take 7 (v := ?v51) (by simp only [lga, lgb, lgc]; rfl) (by kernel_rfl) (by kernel_rfl) (by decide) (fun _ _ _ h => h) (Or.inl ⟨by rfl, ?hy51⟩) (KEEP.out _ (ext_drew _)) ?rest51
            case hy51 => intro W hSW; (try dsimp only at hSW); obtain ⟨e1, e2, e3, e4, e5⟩ := hSW; go_simp <;> with_reducible rfl
            try simp only [Act.put, lsa, lsb, lsc]
            refine EG_take 8 (v := ?v52) (by simp only [lga, lgb, lgc]; rfl) (by kernel_rfl) (by kernel_rfl) (by decide) (fun _ _ _ h => h) (Or.inl ⟨by rfl, ?hy52⟩) (KEEP.out _ (ext_drew _)) ?rest52
            case hy52 => intro W hSW; (try dsimp only at hSW); obtain ⟨e1, e2, e3, e4, e5⟩ := hSW; go_simp <;> with_reducible rfl
            try simp only [Act.put, lsa, lsb, lsc]
            refine EG_take 9 (v := ?v53) (by simp only [lga, lgb, lgc]; rfl) (by kernel_rfl) (by kernel_rfl) (by decide) (fun _ _ _ h => h) (Or.inl ⟨by rfl, ?hy53⟩) (KEEP.out _ (ext_drew _)) ?rest53
            case hy53 => intro W hSW; (try dsimp only at hSW); obtain ⟨e1, e2, e3, e4, e5⟩ := hSW; go_simp <;> with_reducible rfl
            try simp only [Act.put, lsa, lsb, lsc]
            refine EG_take 10 (v := ?v54) (by simp only [lga, lgb, lgc]; rfl) (by kernel_rfl) (by kernel_rfl) (by decide) (fun _ _ _ h => h) (Or.inl ⟨by rfl, ?hy54⟩) (KEEP.out _ (ext_drew _)) ?rest54
            case hy54 => intro W hSW; (try dsimp only at hSW); obtain ⟨e1, e2, e3, e4, e5⟩ := hSW; go_simp <;> with_reducible rfl
            try simp only [Act.put, lsa, lsb, lsc]
            refine EG_take 11 (v := ?v55) (by simp only [lga, lgb, lgc]; rfl) (by kernel_rfl) (by kernel_rfl) (by decide) (fun _ _ _ h => h) (Or.inl ⟨by rfl, ?hy55⟩) (KEEP.out _ (ext_drew _)) ?rest55
            case hy55 => intro W hSW; (try dsimp only at hSW); obtain ⟨e1, e2, e3, e4, e5⟩ := hSW; go_simp <;> with_reducible rfl
            try simp only [Act.put, lsa, lsb, lsc]
            refine EG_take 12 (v := ?v56) (by simp only [lga, lgb, lgc]; rfl) (by kernel_rfl) (by kernel_rfl) (by decide) (fun _ _ _ h => h) (Or.inl ⟨by rfl, ?hy56⟩) (KEEP.out _ (ext_drew _)) ?rest56
            case hy56 => intro W hSW; (try dsimp only at hSW); obtain ⟨e1, e2, e3, e4, e5⟩ := hSW; go_simp <;> with_reducible rfl
            try simp only [Act.put, lsa, lsb, lsc]
            refine EG_take 13 (v := ?v57) (by simp only [lga, lgb, lgc]; rfl) (by kernel_rfl) (by kernel_rfl) (by decide) (fun _ _ _ h => h) (Or.inl ⟨by rfl, ?hy57⟩) (KEEP.out _ (ext_drew _)) ?rest57
            case hy57 => intro W hSW; (try dsimp only at hSW); obtain ⟨e1, e2, e3, e4, e5⟩ := hSW; go_simp <;> with_reducible rfl
            try simp only [Act.put, lsa, lsb, lsc]
            refine EG_take 14 (v := ?v58) (by simp only [lga, lgb, lgc]; rfl) (by kernel_rfl) (by kernel_rfl) (by decide) (fun _ _ _ h => h) (Or.inl ⟨by rfl, ?hy58⟩) (KEEP.out _ (ext_drew _)) ?rest58
            case hy58 => intro W hSW; (try dsimp only at hSW); obtain ⟨e1, e2, e3, e4, e5⟩ := hSW; go_simp <;> with_reducible rfl
            try simp only [Act.put, lsa, lsb, lsc]
            refine EG_take 15 (v := ?v59) (by simp only [lga, lgb, lgc]; rfl) (by kernel_rfl) (by kernel_rfl) (by decide) (fun _ _ _ h => h) (Or.inl ⟨by rfl, ?hy59⟩) (KEEP.out _ (ext_drew _)) ?rest59
            case hy59 => intro W hSW; (try dsimp only at hSW); obtain ⟨e1, e2, e3, e4, e5⟩ := hSW; go_simp <;> with_reducible rfl
            try simp only [Act.put, lsa, lsb, lsc]
            refine EG_take 16 (v := ?v60) (by simp only [lga, lgb, lgc]; rfl) (by kernel_rfl) (by kernel_rfl) (by decide) (fun _ _ _ h => h) (Or.inl ⟨by rfl, ?hy60⟩) (KEEP.out _ (ext_drew _)) ?rest60
            case hy60 => intro W hSW; (try dsimp only at hSW); obtain ⟨e1, e2, e3, e4, e5⟩ := hSW; go_simp <;> with_reducible rfl
            try simp only [Act.put, lsa, lsb, lsc]
            refine EG_take 17 (v := ?v61) (by simp only [lga, lgb, lgc]; rfl) (by kernel_rfl) (by kernel_rfl) (by decide) (fun _ _ _ h => h) (Or.inl ⟨by rfl, ?hy61⟩) (KEEP.out _ (ext_drew _)) ?rest61
            case hy61 => intro W hSW; (try dsimp only at hSW); obtain ⟨e1, e2, e3, e4, e5⟩ := hSW; go_simp <;> with_reducible rfl
            try simp only [Act.put, lsa, lsb, lsc]
            refine EG_take 18 (v := ?v62) (by simp only [lga, lgb, lgc]; rfl) (by kernel_rfl) (by kernel_rfl) (by decide) (fun _ _ _ h => h) (Or.inl ⟨by rfl, ?hy62⟩) (KEEP.out _ (ext_drew _)) ?rest62
            case hy62 => intro W hSW; (try dsimp only at hSW); obtain ⟨e1, e2, e3, e4, e5⟩ := hSW; go_simp <;> with_reducible rfl
            try simp only [Act.put, lsa, lsb, lsc]
            refine EG_take 19 (v := ?v63) (by simp only [lga, lgb, lgc]; rfl) (by kernel_rfl) (by kernel_rfl) (by decide) (fun _ _ _ h => h) (Or.inl ⟨by rfl, ?hy63⟩) (KEEP.out _ (ext_drew _)) ?rest63
            case hy63 => intro W hSW; (try dsimp only at hSW); obtain ⟨e1, e2, e3, e4, e5⟩ := hSW; go_simp <;> with_reducible rfl
            try simp only [Act.put, lsa, lsb, lsc]
            refine EG_take 20 (v := ?v64) (by simp only [lga, lgb, lgc]; rfl) (by kernel_rfl) (by kernel_rfl) (by decide) (fun _ _ _ h => h) (Or.inl ⟨by rfl, ?hy64⟩) (KEEP.out _ (ext_drew _)) ?rest64
            case hy64 => intro W hSW; (try dsimp only at hSW); obtain ⟨e1, e2, e3, e4, e5⟩ := hSW; go_simp <;> with_reducible rfl
            try simp only [Act.put, lsa, lsb, lsc]
            refine EG_take 21 (v := ?v65) (by simp only [lga, lgb, lgc]; rfl) (by kernel_rfl) (by kernel_rfl) (by decide) (fun _ _ _ h => h) (Or.inl ⟨by rfl, ?hy65⟩) (KEEP.out _ (ext_drew _)) ?rest65
            case hy65 => intro W hSW; (try dsimp only at hSW); obtain ⟨e1, e2, e3, e4, e5⟩ := hSW; go_simp <;> with_reducible rfl
            try simp only [Act.put, lsa, lsb, lsc]
            refine EG_take 22 (v := ?v66) (by simp only [lga, lgb, lgc]; rfl) (by kernel_rfl) (by kernel_rfl) (by decide) (fun _ _ _ h => h) (Or.inl ⟨by rfl, ?hy66⟩) (KEEP.out _ (ext_drew _)) ?rest66
            case hy66 => intro W hSW; (try dsimp only at hSW); obtain ⟨e1, e2, e3, e4, e5⟩ := hSW; go_simp <;> with_reducible rfl
            try simp only [Act.put, lsa, lsb, lsc]
            refine EG_take 23 (v := ?v67) (by simp only [lga, lgb, lgc]; rfl) (by kernel_rfl) (by kernel_rfl) (by decide) (fun _ _ _ h => h) (Or.inl ⟨by rfl, ?hy67⟩) (KEEP.out _ (ext_drew _)) ?rest67
            case hy67 => intro W hSW; (try dsimp only at hSW); obtain ⟨e1, e2, e3, e4, e5⟩ := hSW; go_simp <;> with_reducible rfl
            try simp only [Act.put, lsa, lsb, lsc]
            refine EG_take 24 (v := ?v68) (by simp only [lga, lgb, lgc]; rfl) (by kernel_rfl) (by kernel_rfl) (by decide) (fun _ _ _ h => h) (Or.inl ⟨by rfl, ?hy68⟩) (KEEP.out _ (ext_drew _)) ?rest68
            case hy68 => intro W hSW; (try dsimp only at hSW); obtain ⟨e1, e2, e3, e4, e5⟩ := hSW; go_simp <;> with_reducible rfl
            try simp only [Act.put, lsa, lsb, lsc]
            refine EG_take 25 (v := ?v69) (by simp only [lga, lgb, lgc]; rfl) (by kernel_rfl) (by kernel_rfl) (by decide) (fun _ _ _ h => h) (Or.inl ⟨by rfl, ?hy69⟩) (KEEP.out _ (ext_drew _)) ?rest69
            case hy69 => intro W hSW; (try dsimp only at hSW); obtain ⟨e1, e2, e3, e4, e5⟩ := hSW; go_simp <;> with_reducible rfl
            try simp only [Act.put, lsa, lsb, lsc]
            refine EG_take 26 (v := ?v70) (by simp only [lga, lgb, lgc]; rfl) (by kernel_rfl) (by kernel_rfl) (by decide) (fun _ _ _ h => h) (Or.inl ⟨by rfl, ?hy70⟩) (KEEP.out _ (ext_drew _)) ?rest70
            case hy70 => intro W hSW; (try dsimp only at hSW); obtain ⟨e1, e2, e3, e4, e5⟩ := hSW; go_simp <;> with_reducible rfl
            try simp only [Act.put, lsa, lsb, lsc]
            refine EG_take 27 (v := ?v71) (by simp only [lga, lgb, lgc]; rfl) (by kernel_rfl) (by kernel_rfl) (by decide) (fun _ _ _ h => h) (Or.inl ⟨by rfl, ?hy71⟩) (KEEP.out _ (ext_drew _)) ?rest71
            case hy71 => intro W hSW; (try dsimp only at hSW); obtain ⟨e1, e2, e3, e4, e5⟩ := hSW; go_simp <;> with_reducible rfl
            try simp only [Act.put, lsa, lsb, lsc]
            refine EG_take 28 (v := ?v72) (by simp only [lga, lgb, lgc]; rfl) (by kernel_rfl) (by kernel_rfl) (by decide) (fun _ _ _ h => h) (Or.inl ⟨by rfl, ?hy72⟩) (KEEP.out _ (ext_drew _)) ?rest72
            case hy72 => intro W hSW; (try dsimp only at hSW); obtain ⟨e1, e2, e3, e4, e5⟩ := hSW; go_simp <;> with_reducible rfl
            try simp only [Act.put, lsa, lsb, lsc]
            refine EG_take 29 (v := ?v73) (by simp only [lga, lgb, lgc]; rfl) (by kernel_rfl) (by kernel_rfl) (by decide) (fun _ _ _ h => h) (Or.inl ⟨by rfl, ?hy73⟩) (KEEP.out _ (ext_drew _)) ?rest73
            case hy73 => intro W hSW; (try dsimp only at hSW); obtain ⟨e1, e2, e3, e4, e5⟩ := hSW; go_simp <;> with_reducible rfl
            try simp only [Act.put, lsa, lsb, lsc]
            refine EG_take 30 (v := ?v74) (by simp only [lga, lgb, lgc]; rfl) (by kernel_rfl) (by kernel_rfl) (by decide) (fun _ _ _ h => h) (Or.inl ⟨by rfl, ?hy74⟩) (KEEP.out _ (ext_drew _)) ?rest74
            case hy74 => intro W hSW; (try dsimp only at hSW); obtain ⟨e1, e2, e3, e4, e5⟩ := hSW; go_simp <;> with_reducible rfl
            try simp only [Act.put, lsa, lsb, lsc]
            refine EG_take 31 (v := ?v75) (by simp only [lga, lgb, lgc]; rfl) (by kernel_rfl) (by kernel_rfl) (by decide) (fun _ _ _ h => h) (Or.inl ⟨by rfl, ?hy75⟩) (KEEP.out _ (ext_drew _)) ?rest75
            case hy75 => intro W hSW; (try dsimp only at hSW); obtain ⟨e1, e2, e3, e4, e5⟩ := hSW; go_simp <;> with_reducible rfl
            try simp only [Act.put, lsa, lsb, lsc]
            refine EG_take 32 (v := undef) (by simp only [lga, lgb, lgc]; rfl) (by kernel_rfl) (by kernel_rfl) (by decide) (fun _ _ _ h => h) (Or.inr ⟨by rfl, rfl⟩) (KEEP.out _ (ext_drew _)) ?rest76
            try simp only [Act.put, lsa, lsb, lsc]
            refine EG_take 33 (v := undef) (by simp only [lga, lgb, lgc]; rfl) (by kernel_rfl) (by kernel_rfl) (by decide) (fun _ _ _ h => h) (Or.inr ⟨by rfl, rfl⟩) (KEEP.out _ (ext_drew _)) ?rest77
            try simp only [Act.put, lsa, lsb, lsc]
            refine EG_take 34 (v := undef) (by simp only [lga, lgb, lgc]; rfl) (by kernel_rfl) (by kernel_rfl) (by decide) (fun _ _ _ h => h) (Or.inr ⟨by rfl, rfl⟩) (KEEP.out _ (ext_drew _)) ?rest78
            try simp only [Act.put, lsa, lsb, lsc]
            refine EG_take 35 (v := undef) (by simp only [lga, lgb, lgc]; rfl) (by kernel_rfl) (by kernel_rfl) (by decide) (fun _ _ _ h => h) (Or.inr ⟨by rfl, rfl⟩) (KEEP.out _ (ext_drew _)) ?rest79
            try simp only [Act.put, lsa, lsb, lsc]
            refine EG_take 36 (v := undef) (by simp only [lga, lgb, lgc]; rfl) (by kernel_rfl) (by kernel_rfl) (by decide) (fun _ _ _ h => h) (Or.inr ⟨by rfl, rfl⟩) (KEEP.out _ (ext_drew _)) ?rest80
            try simp only [Act.put, lsa, lsb, lsc]
            refine EG_take 37 (v := undef) (by simp only [lga, lgb, lgc]; rfl) (by kernel_rfl) (by kernel_rfl) (by decide) (fun _ _ _ h => h) (Or.inr ⟨by rfl, rfl⟩) (KEEP.out _ (ext_drew _)) ?rest81
            try simp only [Act.put, lsa, lsb, lsc]
            refine EG_take 38 (v := undef) (by simp only [lga, lgb, lgc]; rfl) (by kernel_rfl) (by kernel_rfl) (by decide) (fun _ _ _ h => h) (Or.inr ⟨by rfl, rfl⟩) (KEEP.out _ (ext_drew _)) ?rest82
            try simp only [Act.put, lsa, lsb, lsc]
            refine EG_take 39 (v := undef) (by simp only [lga, lgb, lgc]; rfl) (by kernel_rfl) (by kernel_rfl) (by decide) (fun _ _ _ h => h) (Or.inr ⟨by rfl, rfl⟩) (KEEP.out _ (ext_drew _)) ?rest83
            try simp only [Act.put, lsa, lsb, lsc]
            refine EG_take 40 (v := undef) (by simp only [lga, lgb, lgc]; rfl) (by kernel_rfl) (by kernel_rfl) (by decide) (fun _ _ _ h => h) (Or.inr ⟨by rfl, rfl⟩) (KEEP.out _ (ext_drew _)) ?rest84
            try simp only [Act.put, lsa, lsb, lsc]
            refine EG_take 41 (v := undef) (by simp only [lga, lgb, lgc]; rfl) (by kernel_rfl) (by kernel_rfl) (by decide) (fun _ _ _ h => h) (Or.inr ⟨by rfl, rfl⟩) (KEEP.out _ (ext_drew _)) ?rest85
            try simp only [Act.put, lsa, lsb, lsc]
            refine EG_take 42 (v := ?v86) (by simp only [lga, lgb, lgc]; rfl) (by kernel_rfl) (by kernel_rfl) (by decide) (fun _ _ _ h => h) (Or.inl ⟨by rfl, ?hy86⟩) (KEEP.out _ (ext_drew _)) ?rest86
            case hy86 => intro W hSW; (try dsimp only at hSW); obtain ⟨e1, e2, e3, e4, e5⟩ := hSW; go_simp <;> with_reducible rfl
            try simp only [Act.put, lsa, lsb, lsc]
            refine EG_end (by kernel_rfl) (by simp only [lga, lgb, lgc]; rfl) ?_
            intro K hK0
            have hK := hid hK0
            clear hK0
            go_simp
            refine hK.out _ _ ?_
            clear hK K
            refine NoPanic.normal ?_
            go_wp2_with fail
            go_meet
            exact ⟨by rw [HSV.out, HQ1.out, HQ2.out]; rfl, ext_drew _⟩
          · by_cases q3 : rank < rk
            · have HQ3 := hid (show decide (rank < rk) = true from by simpa using q3)
              have q3 := HQ3.out
              refine wp_region_noPanic ?_
              refine region_E (S := fun W => W.cell? ⟨g, 1, none⟩ = some (.slice (some ⟨b, o, none⟩) n c) ∧ W.cell? ⟨g, 2, none⟩ = some (.int .i64 tm) ∧ W.cell? ⟨b, o + i * 10 + 2, none⟩ = some (.int .i64 tl) ∧ W.cell? ⟨b, o + i * 10 + 3, none⟩ = some (.bool true) ∧ W.cell? ⟨b, o + i * 10 + 9, none⟩ = some (.int .i64 rk)) 43 (by kernel_rfl) (by kernel_rfl) (by kernel_rfl) ?_
              refine EG_take 0 (v := ?v87) (by simp only [lga, lgb, lgc]; rfl) (by kernel_rfl) (by kernel_rfl) (by decide) (fun _ _ _ h => h) (Or.inl ⟨by rfl, ?hy87⟩) (KEEP.out _ (ext_drew _)) ?rest87
              case hy87 => intro W hSW; (try dsimp only at hSW); obtain ⟨e1, e2, e3, e4, e5⟩ := hSW; go_simp <;> with_reducible rfl
              try simp only [Act.put, lsa, lsb, lsc]
              refine EG_take 1 (v := ?v88) (by simp only [lga, lgb, lgc]; rfl) (by kernel_rfl) (by kernel_rfl) (by decide) (fun _ _ _ h => h) (Or.inl ⟨by rfl, ?hy88⟩) (KEEP.out _ (ext_drew _)) ?rest88
              case hy88 => intro W hSW; (try dsimp only at hSW); obtain ⟨e1, e2, e3, e4, e5⟩ := hSW; go_simp <;> with_reducible rfl
              try simp only [Act.put, lsa, lsb, lsc]
              refine EG_take 2 (v := ?v89) (by simp only [lga, lgb, lgc]; rfl) (by kernel_rfl) (by kernel_rfl) (by decide) (fun _ _ _ h => h) (Or.inl ⟨by rfl, ?hy89⟩) (KEEP.out _ (ext_drew _)) ?rest89
              case hy89 => intro W hSW; (try dsimp only at hSW); obtain ⟨e1, e2, e3, e4, e5⟩ := hSW; go_simp <;> with_reducible rfl
              try simp only [Act.put, lsa, lsb, lsc]
              refine EG_take 3 (v := ?v90) (by simp only [lga, lgb, lgc]; rfl) (by kernel_rfl) (by kernel_rfl) (by decide) (fun _ _ _ h => h) (Or.inl ⟨by rfl, ?hy90⟩) (KEEP.out _ (ext_drew _)) ?rest90
              case hy90 => intro W hSW; (try dsimp only at hSW); obtain ⟨e1, e2, e3, e4, e5⟩ := hSW; go_simp <;> with_reducible rfl
              try simp only [Act.put, lsa, lsb, lsc]
              refine EG_take 4 (v := ?v91) (by simp only [lga, lgb, lgc]; rfl) (by kernel_rfl) (by kernel_rfl) (by decide) (fun _ _ _ h => h) (Or.inl ⟨by rfl, ?hy91⟩) (KEEP.out _ (ext_drew _)) ?rest91
              case hy91 => intro W hSW; (try dsimp only at hSW); obtain ⟨e1, e2, e3, e4, e5⟩ := hSW; go_simp <;> with_reducible rfl
              try simp only [Act.put, lsa, lsb, lsc]
              refine EG_take 5 (v := ?v92) (by simp only [lga, lgb, lgc]; rfl) (by kernel_rfl) (by kernel_rfl) (by decide) (fun _ _ _ h => h) (Or.inl ⟨by rfl, ?hy92⟩) (KEEP.out _ (ext_drew _)) ?rest92
              case hy92 => intro W hSW; (try dsimp only at hSW); obtain ⟨e1, e2, e3, e4, e5⟩ := hSW; go_simp <;> with_reducible rfl
              try simp only [Act.put, lsa, lsb, lsc]
              refine EG_take 6 (v := ?v93) (by simp only [lga, lgb, lgc]; rfl) (by kernel_rfl) (by kernel_rfl) (by decide) (fun _ _ _ h => h) (Or.inl ⟨by rfl, ?hy93⟩) (KEEP.out _ (ext_drew _)) ?rest93
              case hy93 => intro W hSW; (try dsimp only at hSW); obtain ⟨e1, e2, e3, e4, e5⟩ := hSW; go_simp <;> with_reducible rfl
              try simp only [Act.put, lsa, lsb, lsc]
              refine EG_take 7 (v := ?v94) (by simp only [lga, lgb, lgc]; rfl) (by kernel_rfl) (by kernel_rfl) (by decide) (fun _ _ _ h => h) (Or.inl ⟨by rfl, ?hy94⟩) (KEEP.out _ (ext_drew _)) ?rest94
              case hy94 => intro W hSW; (try dsimp only at hSW); obtain ⟨e1, e2, e3, e4, e5⟩ := hSW; go_simp <;> with_reducible rfl
              try simp only [Act.put, lsa, lsb, lsc]
              refine EG_take 8 (v := ?v95) (by simp only [lga, lgb, lgc]; rfl) (by kernel_rfl) (by kernel_rfl) (by decide) (fun _ _ _ h => h) (Or.inl ⟨by rfl, ?hy95⟩) (KEEP.out _ (ext_drew _)) ?rest95
              case hy95 => intro W hSW; (try dsimp only at hSW); obtain ⟨e1, e2, e3, e4, e5⟩ := hSW; go_simp <;> with_reducible rfl
              try simp only [Act.put, lsa, lsb, lsc]
              refine EG_take 9 (v := ?v96) (by simp only [lga, lgb, lgc]; rfl) (by kernel_rfl) (by kernel_rfl) (by decide) (fun _ _ _ h => h) (Or.inl ⟨by rfl, ?hy96⟩) (KEEP.out _ (ext_drew _)) ?rest96
              case hy96 => intro W hSW; (try dsimp only at hSW); obtain ⟨e1, e2, e3, e4, e5⟩ := hSW; go_simp <;> with_reducible rfl
              try simp only [Act.put, lsa, lsb, lsc]
              refine EG_take 10 (v := ?v97) (by simp only [lga, lgb, lgc]; rfl) (by kernel_rfl) (by kernel_rfl) (by decide) (fun _ _ _ h => h) (Or.inl ⟨by rfl, ?hy97⟩) (KEEP.out _ (ext_drew _)) ?rest97
              case hy97 => intro W hSW; (try dsimp only at hSW); obtain ⟨e1, e2, e3, e4, e5⟩ := hSW; go_simp <;> with_reducible rfl
              try simp only [Act.put, lsa, lsb, lsc]
              refine EG_take 11 (v := ?v98) (by simp only [lga, lgb, lgc]; rfl) (by kernel_rfl) (by kernel_rfl) (by decide) (fun _ _ _ h => h) (Or.inl ⟨by rfl, ?hy98⟩) (KEEP.out _ (ext_drew _)) ?rest98
              case hy98 => intro W hSW; (try dsimp only at hSW); obtain ⟨e1, e2, e3, e4, e5⟩ := hSW; go_simp <;> with_reducible rfl
              try simp only [Act.put, lsa, lsb, lsc]
              refine EG_take 12 (v := ?v99) (by simp only [lga, lgb, lgc]; rfl) (by kernel_rfl) (by kernel_rfl) (by decide) (fun _ _ _ h => h) (Or.inl ⟨by rfl, ?hy99⟩) (KEEP.out _ (ext_drew _)) ?rest99
              case hy99 => intro W hSW; (try dsimp only at hSW); obtain ⟨e1, e2, e3, e4, e5⟩ := hSW; go_simp <;> with_reducible rfl
              try simp only [Act.put, lsa, lsb, lsc]
              refine EG_take 13 (v := ?v100) (by simp only [lga, lgb, lgc]; rfl) (by kernel_rfl) (by kernel_rfl) (by decide) (fun _ _ _ h => h) (Or.inl ⟨by rfl, ?hy100⟩) (KEEP.out _ (ext_drew _)) ?rest100
              case hy100 => intro W hSW; (try dsimp only at hSW); obtain ⟨e1, e2, e3, e4, e5⟩ := hSW; go_simp <;> with_reducible rfl
              try simp only [Act.put, lsa, lsb, lsc]
              refine EG_take 14 (v := ?v101) (by simp only [lga, lgb, lgc]; rfl) (by kernel_rfl) (by kernel_rfl) (by decide) (fun _ _ _ h => h) (Or.inl ⟨by rfl, ?hy101⟩) (KEEP.out _ (ext_drew _)) ?rest101
              case hy101 => intro W hSW; (try dsimp only at hSW); obtain ⟨e1, e2, e3, e4, e5⟩ := hSW; go_simp <;> with_reducible rfl
              try simp only [Act.put, lsa, lsb, lsc]
              refine EG_take 15 (v := ?v102) (by simp only [lga, lgb, lgc]; rfl) (by kernel_rfl) (by kernel_rfl) (by decide) (fun _ _ _ h => h) (Or.inl ⟨by rfl, ?hy102⟩) (KEEP.out _ (ext_drew _)) ?rest102
              case hy102 => intro W hSW; (try dsimp only at hSW); obtain ⟨e1, e2, e3, e4, e5⟩ := hSW; go_simp <;> with_reducible rfl
              try simp only [Act.put, lsa, lsb, lsc]
              refine EG_take 16 (v := ?v103) (by simp only [lga, lgb, lgc]; rfl) (by kernel_rfl) (by kernel_rfl) (by decide) (fun _ _ _ h => h) (Or.inl ⟨by rfl, ?hy103⟩) (KEEP.out _ (ext_drew _)) ?rest103
              case hy103 => intro W hSW; (try dsimp only at hSW); obtain ⟨e1, e2, e3, e4, e5⟩ := hSW; go_simp <;> with_reducible rfl
              try simp only [Act.put, lsa, lsb, lsc]
              refine EG_take 17 (v := ?v104) (by simp only [lga, lgb, lgc]; rfl) (by kernel_rfl) (by kernel_rfl) (by decide) (fun _ _ _ h => h) (Or.inl ⟨by rfl, ?hy104⟩) (KEEP.out _ (ext_drew _)) ?rest104
              case hy104 => intro W hSW; (try dsimp only at hSW); obtain ⟨e1, e2, e3, e4, e5⟩ := hSW; go_simp <;> with_reducible rfl
              try simp only [Act.put, lsa, lsb, lsc]
              refine EG_take 18 (v := ?v105) (by simp only [lga, lgb, lgc]; rfl) (by kernel_rfl) (by kernel_rfl) (by decide) (fun _ _ _ h => h) (Or.inl ⟨by rfl, ?hy105⟩) (KEEP.out _ (ext_drew _)) ?rest105
              case hy105 => intro W hSW; (try dsimp only at hSW); obtain ⟨e1, e2, e3, e4, e5⟩ := hSW; go_simp <;> with_reducible rfl
              try simp only [Act.put, lsa, lsb, lsc]
              refine EG_take 19 (v := ?v106) (by simp only [lga, lgb, lgc]; rfl) (by kernel_rfl) (by kernel_rfl) (by decide) (fun _ _ _ h => h) (Or.inl ⟨by rfl, ?hy106⟩) (KEEP.out _ (ext_drew _)) ?rest106
              case hy106 => intro W hSW; (try dsimp only at hSW); obtain ⟨e1, e2, e3, e4, e5⟩ := hSW; go_simp <;> with_reducible rfl
              try simp only [Act.put, lsa, lsb, lsc]
              refine EG_take 20 (v := ?v107) (by simp only [lga, lgb, lgc]; rfl) (by kernel_rfl) (by kernel_rfl) (by decide) (fun _ _ _ h => h) (Or.inl ⟨by rfl, ?hy107⟩) (KEEP.out _ (ext_drew _)) ?rest107
              case hy107 => intro W hSW; (try dsimp only at hSW); obtain ⟨e1, e2, e3, e4, e5⟩ := hSW; go_simp <;> with_reducible rfl
              try simp only [Act.put, lsa, lsb, lsc]
              refine EG_take 21 (v := ?v108) (by simp only [lga, lgb, lgc]; rfl) (by kernel_rfl) (by kernel_rfl) (by decide) (fun _ _ _ h => h) (Or.inl ⟨by rfl, ?hy108⟩) (KEEP.out _ (ext_drew _)) ?rest108
              case hy108 => intro W hSW; (try dsimp only at hSW); obtain ⟨e1, e2, e3, e4, e5⟩ := hSW; go_simp <;> with_reducible rfl
              try simp only [Act.put, lsa, lsb, lsc]
              refine EG_take 22 (v := ?v109) (by simp only [lga, lgb, lgc]; rfl) (by kernel_rfl) (by kernel_rfl) (by decide) (fun _ _ _ h => h) (Or.inl ⟨by rfl, ?hy109⟩) (KEEP.out _ (ext_drew _)) ?rest109
              case hy109 => intro W hSW; (try dsimp only at hSW); obtain ⟨e1, e2, e3, e4, e5⟩ := hSW; go_simp <;> with_reducible rfl
              try simp only [Act.put, lsa, lsb, lsc]
              refine EG_take 23 (v := ?v110) (by simp only [lga, lgb, lgc]; rfl) (by kernel_rfl) (by kernel_rfl) (by decide) (fun _ _ _ h => h) (Or.inl ⟨by rfl, ?hy110⟩) (KEEP.out _ (ext_drew _)) ?rest110
              case hy110 => intro W hSW; (try dsimp only at hSW); obtain ⟨e1, e2, e3, e4, e5⟩ := hSW; go_simp <;> with_reducible rfl
              try simp only [Act.put, lsa, lsb, lsc]
              refine EG_take 24 (v := ?v111) (by simp only [lga, lgb, lgc]; rfl) (by kernel_rfl) (by kernel_rfl) (by decide) (fun _ _ _ h => h) (Or.inl ⟨by rfl, ?hy111⟩) (KEEP.out _ (ext_drew _)) ?rest111
              case hy111 => intro W hSW; (try dsimp only at hSW); obtain ⟨e1, e2, e3, e4, e5⟩ := hSW; go_simp <;> with_reducible rfl
              try simp only [Act.put, lsa, lsb, lsc]
              refine EG_take 25 (v := ?v112) (by simp only [lga, lgb, lgc]; rfl) (by kernel_rfl) (by kernel_rfl) (by decide) (fun _ _ _ h => h) (Or.inl ⟨by rfl, ?hy112⟩) (KEEP.out _ (ext_drew _)) ?rest112
              case hy112 => intro W hSW; (try dsimp only at hSW); obtain ⟨e1, e2, e3, e4, e5⟩ := hSW; go_simp <;> with_reducible rfl
              try simp only [Act.put, lsa, lsb, lsc]
              refine EG_take 26 (v := ?v113) (by simp only [lga, lgb, lgc]; rfl) (by kernel_rfl) (by kernel_rfl) (by decide) (fun _ _ _ h => h) (Or.inl ⟨by rfl, ?hy113⟩) (KEEP.out _ (ext_drew _)) ?rest113
              case hy113 => intro W hSW; (try dsimp only at hSW); obtain ⟨e1, e2, e3, e4, e5⟩ := hSW; go_simp <;> with_reducible rfl
              try simp only [Act.put, lsa, lsb, lsc]
              refine EG_take 27 (v := ?v114) (by simp only [lga, lgb, lgc]; rfl) (by kernel_rfl) (by kernel_rfl) (by decide) (fun _ _ _ h => h) (Or.inl ⟨by rfl, ?hy114⟩) (KEEP.out _ (ext_drew _)) ?rest114
              case hy114 => intro W hSW; (try dsimp only at hSW); obtain ⟨e1, e2, e3, e4, e5⟩ := hSW; go_simp <;> with_reducible rfl
              try simp only [Act.put, lsa, lsb, lsc]
              refine EG_take 28 (v := ?v115) (by simp only [lga, lgb, lgc]; rfl) (by kernel_rfl) (by kernel_rfl) (by decide) (fun _ _ _ h => h) (Or.inl ⟨by rfl, ?hy115⟩) (KEEP.out _ (ext_drew _)) ?rest115
              case hy115 => intro W hSW; (try dsimp only at hSW); obtain ⟨e1, e2, e3, e4, e5⟩ := hSW; go_simp <;> with_reducible rfl
              try simp only [Act.put, lsa, lsb, lsc]
              refine EG_take 29 (v := ?v116) (by simp only [lga, lgb, lgc]; rfl) (by kernel_rfl) (by kernel_rfl) (by decide) (fun _ _ _ h => h) (Or.inl ⟨by rfl, ?hy116⟩) (KEEP.out _ (ext_drew _)) ?rest116
              case hy116 => intro W hSW; (try dsimp only at hSW); obtain ⟨e1, e2, e3, e4, e5⟩ := hSW; go_simp <;> with_reducible rfl
              try simp only [Act.put, lsa, lsb, lsc]
              refine EG_take 30 (v := ?v117) (by simp only [lga, lgb, lgc]; rfl) (by kernel_rfl) (by kernel_rfl) (by decide) (fun _ _ _ h => h) (Or.inl ⟨by rfl, ?hy117⟩) (KEEP.out _ (ext_drew _)) ?rest117
              case hy117 => intro W hSW; (try dsimp only at hSW); obtain ⟨e1, e2, e3, e4, e5⟩ := hSW; go_simp <;> with_reducible rfl
              try simp only [Act.put, lsa, lsb, lsc]
              refine EG_take 31 (v := ?v118) (by simp only [lga, lgb, lgc]; rfl) (by kernel_rfl) (by kernel_rfl) (by decide) (fun _ _ _ h => h) (Or.inl ⟨by rfl, ?hy118⟩) (KEEP.out _ (ext_drew _)) ?rest118
              case hy118 => intro W hSW; (try dsimp only at hSW); obtain ⟨e1, e2, e3, e4, e5⟩ := hSW; go_simp <;> with_reducible rfl
              try simp only [Act.put, lsa, lsb, lsc]
              refine EG_take 32 (v := ?v119) (by simp only [lga, lgb, lgc]; rfl) (by kernel_rfl) (by kernel_rfl) (by decide) (fun _ _ _ h => h) (Or.inl ⟨by rfl, ?hy119⟩) (KEEP.out _ (ext_drew _)) ?rest119
              case hy119 => intro W hSW; (try dsimp only at hSW); obtain ⟨e1, e2, e3, e4, e5⟩ := hSW; go_simp <;> with_reducible rfl
              try simp only [Act.put, lsa, lsb, lsc]
              refine EG_take 33 (v := ?v120) (by simp only [lga, lgb, lgc]; rfl) (by kernel_rfl) (by kernel_rfl) (by decide) (fun _ _ _ h => h) (Or.inl ⟨by rfl, ?hy120⟩) (KEEP.out _ (ext_drew _)) ?rest120
              case hy120 => intro W hSW; (try dsimp only at hSW); obtain ⟨e1, e2, e3, e4, e5⟩ := hSW; go_simp <;> with_reducible rfl
              try simp only [Act.put, lsa, lsb, lsc]
              refine EG_take 34 (v := ?v121) (by simp only [lga, lgb, lgc]; rfl) (by kernel_rfl) (by kernel_rfl) (by decide) (fun _ _ _ h => h) (Or.inl ⟨by rfl, ?hy121⟩) (KEEP.out _ (ext_drew _)) ?rest121
              case hy121 => intro W hSW; (try dsimp only at hSW); obtain ⟨e1, e2, e3, e4, e5⟩ := hSW; go_simp <;> with_reducible rfl
              try simp only [Act.put, lsa, lsb, lsc]
              refine EG_take 35 (v := ?v122) (by simp only [lga, lgb, lgc]; rfl) (by kernel_rfl) (by kernel_rfl) (by decide) (fun _ _ _ h => h) (Or.inl ⟨by rfl, ?hy122⟩) (KEEP.out _ (ext_drew _)) ?rest122
              case hy122 => intro W hSW; (try dsimp only at hSW); obtain ⟨e1, e2, e3, e4, e5⟩ := hSW; go_simp <;> with_reducible rfl
              try simp only [Act.put, lsa, lsb, lsc]
              refine EG_take 36 (v := ?v123) (by simp only [lga, lgb, lgc]; rfl) (by kernel_rfl) (by kernel_rfl) (by decide) (fun _ _ _ h => h) (Or.inl ⟨by rfl, ?hy123⟩) (KEEP.out _ (ext_drew _)) ?rest123
              case hy123 => intro W hSW; (try dsimp only at hSW); obtain ⟨e1, e2, e3, e4, e5⟩ := hSW; go_simp <;> with_reducible rfl
              try simp only [Act.put, lsa, lsb, lsc]
              refine EG_take 37 (v := ?v124) (by simp only [lga, lgb, lgc]; rfl) (by kernel_rfl) (by kernel_rfl) (by decide) (fun _ _ _ h => h) (Or.inl ⟨by rfl, ?hy124⟩) (KEEP.out _ (ext_drew _)) ?rest124
              case hy124 => intro W hSW; (try dsimp only at hSW); obtain ⟨e1, e2, e3, e4, e5⟩ := hSW; go_simp <;> with_reducible rfl
              try simp only [Act.put, lsa, lsb, lsc]
              refine EG_take 38 (v := ?v125) (by simp only [lga, lgb, lgc]; rfl) (by kernel_rfl) (by kernel_rfl) (by decide) (fun _ _ _ h => h) (Or.inl ⟨by rfl, ?hy125⟩) (KEEP.out _ (ext_drew _)) ?rest125
              case hy125 => intro W hSW; (try dsimp only at hSW); obtain ⟨e1, e2, e3, e4, e5⟩ := hSW; go_simp <;> with_reducible rfl
              try simp only [Act.put, lsa, lsb, lsc]
              refine EG_take 39 (v := ?v126) (by simp only [lga, lgb, lgc]; rfl) (by kernel_rfl) (by kernel_rfl) (by decide) (fun _ _ _ h => h) (Or.inl ⟨by rfl, ?hy126⟩) (KEEP.out _ (ext_drew _)) ?rest126
              case hy126 => intro W hSW; (try dsimp only at hSW); obtain ⟨e1, e2, e3, e4, e5⟩ := hSW; go_simp <;> with_reducible rfl
              try simp only [Act.put, lsa, lsb, lsc]
              refine EG_take 40 (v := ?v127) (by simp only [lga, lgb, lgc]; rfl) (by kernel_rfl) (by kernel_rfl) (by decide) (fun _ _ _ h => h) (Or.inl ⟨by rfl, ?hy127⟩) (KEEP.out _ (ext_drew _)) ?rest127
              case hy127 => intro W hSW; (try dsimp only at hSW); obtain ⟨e1, e2, e3, e4, e5⟩ := hSW; go_simp <;> with_reducible rfl
              try simp only [Act.put, lsa, lsb, lsc]
              refine EG_take 41 (v := ?v128) (by simp only [lga, lgb, lgc]; rfl) (by kernel_rfl) (by kernel_rfl) (by decide) (fun _ _ _ h => h) (Or.inl ⟨by rfl, ?hy128⟩) (KEEP.out _ (ext_drew _)) ?rest128
              case hy128 => intro W hSW; (try dsimp only at hSW); obtain ⟨e1, e2, e3, e4, e5⟩ := hSW; go_simp <;> with_reducible rfl
              try simp only [Act.put, lsa, lsb, lsc]
              refine EG_take 42 (v := ?v129) (by simp only [lga, lgb, lgc]; rfl) (by kernel_rfl) (by kernel_rfl) (by decide) (fun _ _ _ h => h) (Or.inl ⟨by rfl, ?hy129⟩) (KEEP.out _ (ext_drew _)) ?rest129
              case hy129 => intro W hSW; (try dsimp only at hSW); obtain ⟨e1, e2, e3, e4, e5⟩ := hSW; go_simp <;> with_reducible rfl
              try simp only [Act.put, lsa, lsb, lsc]
              refine EG_end (by kernel_rfl) (by simp only [lga, lgb, lgc]; rfl) ?_
              intro K hK0
              have hK := hid hK0
              clear hK0
              go_simp
              refine hK.out _ _ ?_
              clear hK K
              refine NoPanic.normal ?_
              go_wp2_with fail
              go_meet
              exact ⟨by rw [HSV.out, HQ1.out, HQ2.out, HQ3.out]; rfl, ext_drew _⟩
            · have HQ3 := hid (show decide (rank < rk) = false from by simpa using q3)
              have q3 := HQ3.out
              refine wp_region_noPanic ?_
              refine region_E (S := fun W => W.cell? ⟨g, 1, none⟩ = some (.slice (some ⟨b, o, none⟩) n c) ∧ W.cell? ⟨g, 2, none⟩ = some (.int .i64 tm) ∧ W.cell? ⟨b, o + i * 10 + 2, none⟩ = some (.int .i64 tl) ∧ W.cell? ⟨b, o + i * 10 + 3, none⟩ = some (.bool true) ∧ W.cell? ⟨b, o + i * 10 + 9, none⟩ = some (.int .i64 rk)) 43 (by kernel_rfl) (by kernel_rfl) (by kernel_rfl) ?_
              refine EG_take 0 (v := ?v130) (by simp only [lga, lgb, lgc]; rfl) (by kernel_rfl) (by kernel_rfl) (by decide) (fun _ _ _ h => h) (Or.inl ⟨by rfl, ?hy130⟩) (KEEP.out _ (ext_drew _)) ?rest130
              case hy130 => intro W hSW; (try dsimp only at hSW); obtain ⟨e1, e2, e3, e4, e5⟩ := hSW; go_simp <;> with_reducible rfl
              try simp only [Act.put, lsa, lsb, lsc]
              refine EG_take 1 (v := ?v131) (by simp only [lga, lgb, lgc]; rfl) (by kernel_rfl) (by kernel_rfl) (by decide) (fun _ _ _ h => h) (Or.inl ⟨by rfl, ?hy131⟩) (KEEP.out _ (ext_drew _)) ?rest131
              case hy131 => intro W hSW; (try dsimp only at hSW); obtain ⟨e1, e2, e3, e4, e5⟩ := hSW; go_simp <;> with_reducible rfl
              try simp only [Act.put, lsa, lsb, lsc]
              refine EG_take 2 (v := ?v132) (by simp only [lga, lgb, lgc]; rfl) (by kernel_rfl) (by kernel_rfl) (by decide) (fun _ _ _ h => h) (Or.inl ⟨by rfl, ?hy132⟩) (KEEP.out _ (ext_drew _)) ?rest132
              case hy132 => intro W hSW; (try dsimp only at hSW); obtain ⟨e1, e2, e3, e4, e5⟩ := hSW; go_simp <;> with_reducible rfl
              try simp only [Act.put, lsa, lsb, lsc]
              refine EG_take 3 (v := ?v133) (by simp only [lga, lgb, lgc]; rfl) (by kernel_rfl) (by kernel_rfl) (by decide) (fun _ _ _ h => h) (Or.inl ⟨by rfl, ?hy133⟩) (KEEP.out _ (ext_drew _)) ?rest133
              case hy133 => intro W hSW; (try dsimp only at hSW); obtain ⟨e1, e2, e3, e4, e5⟩ := hSW; go_simp <;> with_reducible rfl
              try simp only [Act.put, lsa, lsb, lsc]
              refine EG_take 4 (v := ?v134) (by simp only [lga, lgb, lgc]; rfl) (by kernel_rfl) (by kernel_rfl) (by decide) (fun _ _ _ h => h) (Or.inl ⟨by rfl, ?hy134⟩) (KEEP.out _ (ext_drew _)) ?rest134
              case hy134 => intro W hSW; (try dsimp only at hSW); obtain ⟨e1, e2, e3, e4, e5⟩ := hSW; go_simp <;> with_reducible rfl
              try simp only [Act.put, lsa, lsb, lsc]
              refine EG_take 5 (v := ?v135) (by simp only [lga, lgb, lgc]; rfl) (by kernel_rfl) (by kernel_rfl) (by decide) (fun _ _ _ h => h) (Or.inl ⟨by rfl, ?hy135⟩) (KEEP.out _ (ext_drew _)) ?rest135
              case hy135 => intro W hSW; (try dsimp only at hSW); obtain ⟨e1, e2, e3, e4, e5⟩ := hSW; go_simp <;> with_reducible rfl
              try simp only [Act.put, lsa, lsb, lsc]
              refine EG_take 6 (v := ?v136) (by simp only [lga, lgb, lgc]; rfl) (by kernel_rfl) (by kernel_rfl) (by decide) (fun _ _ _ h => h) (Or.inl ⟨by rfl, ?hy136⟩) (KEEP.out _ (ext_drew _)) ?rest136
              case hy136 => intro W hSW; (try dsimp only at hSW); obtain ⟨e1, e2, e3, e4, e5⟩ := hSW; go_simp <;> with_reducible rfl
              try simp only [Act.put, lsa, lsb, lsc]
              refine EG_take 7 (v := ?v137) (by simp only [lga, lgb, lgc]; rfl) (by kernel_rfl) (by kernel_rfl) (by decide) (fun _ _ _ h => h) (Or.inl ⟨by rfl, ?hy137⟩) (KEEP.out _ (ext_drew _)) ?rest137
              case hy137 => intro W hSW; (try dsimp only at hSW); obtain ⟨e1, e2, e3, e4, e5⟩ := hSW; go_simp <;> with_reducible rfl
              try simp only [Act.put, lsa, lsb, lsc]
              refine EG_take 8 (v := ?v138) (by simp only [lga, lgb, lgc]; rfl) (by kernel_rfl) (by kernel_rfl) (by decide) (fun _ _ _ h => h) (Or.inl ⟨by rfl, ?hy138⟩) (KEEP.out _ (ext_drew _)) ?rest138
              case hy138 => intro W hSW; (try dsimp only at hSW); obtain ⟨e1, e2, e3, e4, e5⟩ := hSW; go_simp <;> with_reducible rfl
              try simp only [Act.put, lsa, lsb, lsc]
              refine EG_take 9 (v := ?v139) (by simp only [lga, lgb, lgc]; rfl) (by kernel_rfl) (by kernel_rfl) (by decide) (fun _ _ _ h => h) (Or.inl ⟨by rfl, ?hy139⟩) (KEEP.out _ (ext_drew _)) ?rest139
              case hy139 => intro W hSW; (try dsimp only at hSW); obtain ⟨e1, e2, e3, e4, e5⟩ := hSW; go_simp <;> with_reducible rfl
              try simp only [Act.put, lsa, lsb, lsc]
              refine EG_take 10 (v := ?v140) (by simp only [lga, lgb, lgc]; rfl) (by kernel_rfl) (by kernel_rfl) (by decide) (fun _ _ _ h => h) (Or.inl ⟨by rfl, ?hy140⟩) (KEEP.out _ (ext_drew _)) ?rest140
              case hy140 => intro W hSW; (try dsimp only at hSW); obtain ⟨e1, e2, e3, e4, e5⟩ := hSW; go_simp <;> with_reducible rfl
              try simp only [Act.put, lsa, lsb, lsc]
              refine EG_take 11 (v := ?v141) (by simp only [lga, lgb, lgc]; rfl) (by kernel_rfl) (by kernel_rfl) (by decide) (fun _ _ _ h => h) (Or.inl ⟨by rfl, ?hy141⟩) (KEEP.out _ (ext_drew _)) ?rest141
              case hy141 => intro W hSW; (try dsimp only at hSW); obtain ⟨e1, e2, e3, e4, e5⟩ := hSW; go_simp <;> with_reducible rfl
              try simp only [Act.put, lsa, lsb, lsc]
              refine EG_take 12 (v := ?v142) (by simp only [lga, lgb, lgc]; rfl) (by kernel_rfl) (by kernel_rfl) (by decide) (fun _ _ _ h => h) (Or.inl ⟨by rfl, ?hy142⟩) (KEEP.out _ (ext_drew _)) ?rest142
              case hy142 => intro W hSW; (try dsimp only at hSW); obtain ⟨e1, e2, e3, e4, e5⟩ := hSW; go_simp <;> with_reducible rfl
              try simp only [Act.put, lsa, lsb, lsc]
              refine EG_take 13 (v := ?v143) (by simp only [lga, lgb, lgc]; rfl) (by kernel_rfl) (by kernel_rfl) (by decide) (fun _ _ _ h => h) (Or.inl ⟨by rfl, ?hy143⟩) (KEEP.out _ (ext_drew _)) ?rest143
              case hy143 => intro W hSW; (try dsimp only at hSW); obtain ⟨e1, e2, e3, e4, e5⟩ := hSW; go_simp <;> with_reducible rfl
              try simp only [Act.put, lsa, lsb, lsc]
              refine EG_take 14 (v := ?v144) (by simp only [lga, lgb, lgc]; rfl) (by kernel_rfl) (by kernel_rfl) (by decide) (fun _ _ _ h => h) (Or.inl ⟨by rfl, ?hy144⟩) (KEEP.out _ (ext_drew _)) ?rest144
              case hy144 => intro W hSW; (try dsimp only at hSW); obtain ⟨e1, e2, e3, e4, e5⟩ := hSW; go_simp <;> with_reducible rfl
              try simp only [Act.put, lsa, lsb, lsc]
              refine EG_take 15 (v := ?v145) (by simp only [lga, lgb, lgc]; rfl) (by kernel_rfl) (by kernel_rfl) (by decide) (fun _ _ _ h => h) (Or.inl ⟨by rfl, ?hy145⟩) (KEEP.out _ (ext_drew _)) ?rest145
              case hy145 => intro W hSW; (try dsimp only at hSW); obtain ⟨e1, e2, e3, e4, e5⟩ := hSW; go_simp <;> with_reducible rfl
              try simp only [Act.put, lsa, lsb, lsc]
              refine EG_take 16 (v := ?v146) (by simp only [lga, lgb, lgc]; rfl) (by kernel_rfl) (by kernel_rfl) (by decide) (fun _ _ _ h => h) (Or.inl ⟨by rfl, ?hy146⟩) (KEEP.out _ (ext_drew _)) ?rest146
              case hy146 => intro W hSW; (try dsimp only at hSW); obtain ⟨e1, e2, e3, e4, e5⟩ := hSW; go_simp <;> with_reducible rfl
              try simp only [Act.put, lsa, lsb, lsc]
              refine EG_take 17 (v := ?v147) (by simp only [lga, lgb, lgc]; rfl) (by kernel_rfl) (by kernel_rfl) (by decide) (fun _ _ _ h => h) (Or.inl ⟨by rfl, ?hy147⟩) (KEEP.out _ (ext_drew _)) ?rest147
              case hy147 => intro W hSW; (try dsimp only at hSW); obtain ⟨e1, e2, e3, e4, e5⟩ := hSW; go_simp <;> with_reducible rfl
              try simp only [Act.put, lsa, lsb, lsc]
              refine EG_take 18 (v := ?v148) (by simp only [lga, lgb, lgc]; rfl) (by kernel_rfl) (by kernel_rfl) (by decide) (fun _ _ _ h => h) (Or.inl ⟨by rfl, ?hy148⟩) (KEEP.out _ (ext_drew _)) ?rest148
              case hy148 => intro W hSW; (try dsimp only at hSW); obtain ⟨e1, e2, e3, e4, e5⟩ := hSW; go_simp <;> with_reducible rfl
              try simp only [Act.put, lsa, lsb, lsc]
              refine EG_take 19 (v := ?v149) (by simp only [lga, lgb, lgc]; rfl) (by kernel_rfl) (by kernel_rfl) (by decide) (fun _ _ _ h => h) (Or.inl ⟨by rfl, ?hy149⟩) (KEEP.out _ (ext_drew _)) ?rest149
              case hy149 => intro W hSW; (try dsimp only at hSW); obtain ⟨e1, e2, e3, e4, e5⟩ := hSW; go_simp <;> with_reducible rfl
              try simp only [Act.put, lsa, lsb, lsc]
              refine EG_take 20 (v := ?v150) (by simp only [lga, lgb, lgc]; rfl) (by kernel_rfl) (by kernel_rfl) (by decide) (fun _ _ _ h => h) (Or.inl ⟨by rfl, ?hy150⟩) (KEEP.out _ (ext_drew _)) ?rest150
              case hy150 => intro W hSW; (try dsimp only at hSW); obtain ⟨e1, e2, e3, e4, e5⟩ := hSW; go_simp <;> with_reducible rfl
              try simp only [Act.put, lsa, lsb, lsc]
              refine EG_take 21 (v := ?v151) (by simp only [lga, lgb, lgc]; rfl) (by kernel_rfl) (by kernel_rfl) (by decide) (fun _ _ _ h => h) (Or.inl ⟨by rfl, ?hy151⟩) (KEEP.out _ (ext_drew _)) ?rest151
              case hy151 => intro W hSW; (try dsimp only at hSW); obtain ⟨e1, e2, e3, e4, e5⟩ := hSW; go_simp <;> with_reducible rfl
              try simp only [Act.put, lsa, lsb, lsc]
              refine EG_take 22 (v := ?v152) (by simp only [lga, lgb, lgc]; rfl) (by kernel_rfl) (by kernel_rfl) (by decide) (fun _ _ _ h => h) (Or.inl ⟨by rfl, ?hy152⟩) (KEEP.out _ (ext_drew _)) ?rest152
              case hy152 => intro W hSW; (try dsimp only at hSW); obtain ⟨e1, e2, e3, e4, e5⟩ := hSW; go_simp <;> with_reducible rfl
              try simp only [Act.put, lsa, lsb, lsc]
              refine EG_take 23 (v := ?v153) (by simp only [lga, lgb, lgc]; rfl) (by kernel_rfl) (by kernel_rfl) (by decide) (fun _ _ _ h => h) (Or.inl ⟨by rfl, ?hy153⟩) (KEEP.out _ (ext_drew _)) ?rest153
              case hy153 => intro W hSW; (try dsimp only at hSW); obtain ⟨e1, e2, e3, e4, e5⟩ := hSW; go_simp <;> with_reducible rfl
              try simp only [Act.put, lsa, lsb, lsc]
              refine EG_take 24 (v := ?v154) (by simp only [lga, lgb, lgc]; rfl) (by kernel_rfl) (by kernel_rfl) (by decide) (fun _ _ _ h => h) (Or.inl ⟨by rfl, ?hy154⟩) (KEEP.out _ (ext_drew _)) ?rest154
              case hy154 => intro W hSW; (try dsimp only at hSW); obtain ⟨e1, e2, e3, e4, e5⟩ := hSW; go_simp <;> with_reducible rfl
              try simp only [Act.put, lsa, lsb, lsc]
              refine EG_take 25 (v := ?v155) (by simp only [lga, lgb, lgc]; rfl) (by kernel_rfl) (by kernel_rfl) (by decide) (fun _ _ _ h => h) (Or.inl ⟨by rfl, ?hy155⟩) (KEEP.out _ (ext_drew _)) ?rest155
              case hy155 => intro W hSW; (try dsimp only at hSW); obtain ⟨e1, e2, e3, e4, e5⟩ := hSW; go_simp <;> with_reducible rfl
              try simp only [Act.put, lsa, lsb, lsc]
              refine EG_take 26 (v := ?v156) (by simp only [lga, lgb, lgc]; rfl) (by kernel_rfl) (by kernel_rfl) (by decide) (fun _ _ _ h => h) (Or.inl ⟨by rfl, ?hy156⟩) (KEEP.out _ (ext_drew _)) ?rest156
              case hy156 => intro W hSW; (try dsimp only at hSW); obtain ⟨e1, e2, e3, e4, e5⟩ := hSW; go_simp <;> with_reducible rfl
              try simp only [Act.put, lsa, lsb, lsc]
              refine EG_take 27 (v := ?v157) (by simp only [lga, lgb, lgc]; rfl) (by kernel_rfl) (by kernel_rfl) (by decide) (fun _ _ _ h => h) (Or.inl ⟨by rfl, ?hy157⟩) (KEEP.out _ (ext_drew _)) ?rest157
              case hy157 => intro W hSW; (try dsimp only at hSW); obtain ⟨e1, e2, e3, e4, e5⟩ := hSW; go_simp <;> with_reducible rfl
              try simp only [Act.put, lsa, lsb, lsc]
              refine EG_take 28 (v := ?v158) (by simp only [lga, lgb, lgc]; rfl) (by kernel_rfl) (by kernel_rfl) (by decide) (fun _ _ _ h => h) (Or.inl ⟨by rfl, ?hy158⟩) (KEEP.out _ (ext_drew _)) ?rest158
              case hy158 => intro W hSW; (try dsimp only at hSW); obtain ⟨e1, e2, e3, e4, e5⟩ := hSW; go_simp <;> with_reducible rfl
              try simp only [Act.put, lsa, lsb, lsc]
              refine EG_take 29 (v := ?v159) (by simp only [lga, lgb, lgc]; rfl) (by kernel_rfl) (by kernel_rfl) (by decide) (fun _ _ _ h => h) (Or.inl ⟨by rfl, ?hy159⟩) (KEEP.out _ (ext_drew _)) ?rest159
              case hy159 => intro W hSW; (try dsimp only at hSW); obtain ⟨e1, e2, e3, e4, e5⟩ := hSW; go_simp <;> with_reducible rfl
              try simp only [Act.put, lsa, lsb, lsc]
              refine EG_take 30 (v := ?v160) (by simp only [lga, lgb, lgc]; rfl) (by kernel_rfl) (by kernel_rfl) (by decide) (fun _ _ _ h => h) (Or.inl ⟨by rfl, ?hy160⟩) (KEEP.out _ (ext_drew _)) ?rest160
              case hy160 => intro W hSW; (try dsimp only at hSW); obtain ⟨e1, e2, e3, e4, e5⟩ := hSW; go_simp <;> with_reducible rfl
              try simp only [Act.put, lsa, lsb, lsc]
              refine EG_take 31 (v := ?v161) (by simp only [lga, lgb, lgc]; rfl) (by kernel_rfl) (by kernel_rfl) (by decide) (fun _ _ _ h => h) (Or.inl ⟨by rfl, ?hy161⟩) (KEEP.out _ (ext_drew _)) ?rest161
              case hy161 => intro W hSW; (try dsimp only at hSW); obtain ⟨e1, e2, e3, e4, e5⟩ := hSW; go_simp <;> with_reducible rfl
              try simp only [Act.put, lsa, lsb, lsc]
              refine EG_take 32 (v := ?v162) (by simp only [lga, lgb, lgc]; rfl) (by kernel_rfl) (by kernel_rfl) (by decide) (fun _ _ _ h => h) (Or.inl ⟨by rfl, ?hy162⟩) (KEEP.out _ (ext_drew _)) ?rest162
              case hy162 => intro W hSW; (try dsimp only at hSW); obtain ⟨e1, e2, e3, e4, e5⟩ := hSW; go_simp <;> with_reducible rfl
              try simp only [Act.put, lsa, lsb, lsc]
              refine EG_take 33 (v := ?v163) (by simp only [lga, lgb, lgc]; rfl) (by kernel_rfl) (by kernel_rfl) (by decide) (fun _ _ _ h => h) (Or.inl ⟨by rfl, ?hy163⟩) (KEEP.out _ (ext_drew _)) ?rest163
              case hy163 => intro W hSW; (try dsimp only at hSW); obtain ⟨e1, e2, e3, e4, e5⟩ := hSW; go_simp <;> with_reducible rfl
              try simp only [Act.put, lsa, lsb, lsc]
              refine EG_take 34 (v := ?v164) (by simp only [lga, lgb, lgc]; rfl) (by kernel_rfl) (by kernel_rfl) (by decide) (fun _ _ _ h => h) (Or.inl ⟨by rfl, ?hy164⟩) (KEEP.out _ (ext_drew _)) ?rest164
              case hy164 => intro W hSW; (try dsimp only at hSW); obtain ⟨e1, e2, e3, e4, e5⟩ := hSW; go_simp <;> with_reducible rfl
              try simp only [Act.put, lsa, lsb, lsc]
              refine EG_take 35 (v := ?v165) (by simp only [lga, lgb, lgc]; rfl) (by kernel_rfl) (by kernel_rfl) (by decide) (fun _ _ _ h => h) (Or.inl ⟨by rfl, ?hy165⟩) (KEEP.out _ (ext_drew _)) ?rest165
              case hy165 => intro W hSW; (try dsimp only at hSW); obtain ⟨e1, e2, e3, e4, e5⟩ := hSW; go_simp <;> with_reducible rfl
              try simp only [Act.put, lsa, lsb, lsc]
              refine EG_take 36 (v := ?v166) (by simp only [lga, lgb, lgc]; rfl) (by kernel_rfl) (by kernel_rfl) (by decide) (fun _ _ _ h => h) (Or.inl ⟨by rfl, ?hy166⟩) (KEEP.out _ (ext_drew _)) ?rest166
              case hy166 => intro W hSW; (try dsimp only at hSW); obtain ⟨e1, e2, e3, e4, e5⟩ := hSW; go_simp <;> with_reducible rfl
              try simp only [Act.put, lsa, lsb, lsc]
              refine EG_take 37 (v := ?v167) (by simp only [lga, lgb, lgc]; rfl) (by kernel_rfl) (by kernel_rfl) (by decide) (fun _ _ _ h => h) (Or.inl ⟨by rfl, ?hy167⟩) (KEEP.out _ (ext_drew _)) ?rest167
              case hy167 => intro W hSW; (try dsimp only at hSW); obtain ⟨e1, e2, e3, e4, e5⟩ := hSW; go_simp <;> with_reducible rfl
              try simp only [Act.put, lsa, lsb, lsc]
              refine EG_take 38 (v := ?v168) (by simp only [lga, lgb, lgc]; rfl) (by kernel_rfl) (by kernel_rfl) (by decide) (fun _ _ _ h => h) (Or.inl ⟨by rfl, ?hy168⟩) (KEEP.out _ (ext_drew _)) ?rest168
              case hy168 => intro W hSW; (try dsimp only at hSW); obtain ⟨e1, e2, e3, e4, e5⟩ := hSW; go_simp <;> with_reducible rfl
              try simp only [Act.put, lsa, lsb, lsc]
              refine EG_take 39 (v := ?v169) (by simp only [lga, lgb, lgc]; rfl) (by kernel_rfl) (by kernel_rfl) (by decide) (fun _ _ _ h => h) (Or.inl ⟨by rfl, ?hy169⟩) (KEEP.out _ (ext_drew _)) ?rest169
              case hy169 => intro W hSW; (try dsimp only at hSW); obtain ⟨e1, e2, e3, e4, e5⟩ := hSW; go_simp <;> with_reducible rfl
              try simp only [Act.put, lsa, lsb, lsc]
              refine EG_take 40 (v := ?v170) (by simp only [lga, lgb, lgc]; rfl) (by kernel_rfl) (by kernel_rfl) (by decide) (fun _ _ _ h => h) (Or.inl ⟨by rfl, ?hy170⟩) (KEEP.out _ (ext_drew _)) ?rest170
              case hy170 => intro W hSW; (try dsimp only at hSW); obtain ⟨e1, e2, e3, e4, e5⟩ := hSW; go_simp <;> with_reducible rfl
              try simp only [Act.put, lsa, lsb, lsc]
              refine EG_take 41 (v := ?v171) (by simp only [lga, lgb, lgc]; rfl) (by kernel_rfl) (by kernel_rfl) (by decide) (fun _ _ _ h => h) (Or.inl ⟨by rfl, ?hy171⟩) (KEEP.out _ (ext_drew _)) ?rest171
              case hy171 => intro W hSW; (try dsimp only at hSW); obtain ⟨e1, e2, e3, e4, e5⟩ := hSW; go_simp <;> with_reducible rfl
              try simp only [Act.put, lsa, lsb, lsc]
              refine EG_take 42 (v := ?v172) (by simp only [lga, lgb, lgc]; rfl) (by kernel_rfl) (by kernel_rfl) (by decide) (fun _ _ _ h => h) (Or.inl ⟨by rfl, ?hy172⟩) (KEEP.out _ (ext_drew _)) ?rest172
              case hy172 => intro W hSW; (try dsimp only at hSW); obtain ⟨e1, e2, e3, e4, e5⟩ := hSW; go_simp <;> with_reducible rfl
              try simp only [Act.put, lsa, lsb, lsc]
              refine EG_end (by kernel_rfl) (by simp only [lga, lgb, lgc]; rfl) ?_
              intro K hK0
              have hK := hid hK0
              clear hK0
              go_simp
              refine hK.out _ _ ?_
              clear hK K
              refine NoPanic.normal ?_
              go_wp2_with fail
              go_meet
              exact ⟨by rw [HSV.out, HQ1.out, HQ2.out, HQ3.out]; rfl, ext_drew _⟩
        · have HQ2 := hid (show decide (rank < 3) = false from by simpa using q2)
          have q2 := HQ2.out
          refine wp_region_noPanic ?_
          refine region_E (S := fun W => W.cell? ⟨g, 1, none⟩ = some (.slice (some ⟨b, o, none⟩) n c) ∧ W.cell? ⟨g, 2, none⟩ = some (.int .i64 tm) ∧ W.cell? ⟨b, o + i * 10 + 2, none⟩ = some (.int .i64 tl) ∧ W.cell? ⟨b, o + i * 10 + 3, none⟩ = some (.bool ib) ∧ W.cell? ⟨b, o + i * 10 + 9, none⟩ = some (.int .i64 rk)) 43 (by kernel_rfl) (by kernel_rfl) (by kernel_rfl) ?_
          refine EG_take 0 (v := ?v173) (by simp only [lga, lgb, lgc]; rfl) (by kernel_rfl) (by kernel_rfl) (by decide) (fun _ _ _ h => h) (Or.inl ⟨by rfl, ?hy173⟩) (KEEP.out _ (ext_drew _)) ?rest173
          case hy173 => intro W hSW; (try dsimp only at hSW); obtain ⟨e1, e2, e3, e4, e5⟩ := hSW; go_simp <;> with_reducible rfl
          try simp only [Act.put, lsa, lsb, lsc]
          refine EG_take 1 (v := ?v174) (by simp only [lga, lgb, lgc]; rfl) (by kernel_rfl) (by kernel_rfl) (by decide) (fun _ _ _ h => h) (Or.inl ⟨by rfl, ?hy174⟩) (KEEP.out _ (ext_drew _)) ?rest174
          case hy174 => intro W hSW; (try dsimp only at hSW); obtain ⟨e1, e2, e3, e4, e5⟩ := hSW; go_simp <;> with_reducible rfl
          try simp only [Act.put, lsa, lsb, lsc]
          refine EG_take 2 (v := ?v175) (by simp only [lga, lgb, lgc]; rfl) (by kernel_rfl) (by kernel_rfl) (by decide) (fun _ _ _ h => h) (Or.inl ⟨by rfl, ?hy175⟩) (KEEP.out _ (ext_drew _)) ?rest175
          case hy175 => intro W hSW; (try dsimp only at hSW); obtain ⟨e1, e2, e3, e4, e5⟩ := hSW; go_simp <;> with_reducible rfl
          try simp only [Act.put, lsa, lsb, lsc]
          refine EG_take 3 (v := ?v176) (by simp only [lga, lgb, lgc]; rfl) (by kernel_rfl) (by kernel_rfl) (by decide) (fun _ _ _ h => h) (Or.inl ⟨by rfl, ?hy176⟩) (KEEP.out _ (ext_drew _)) ?rest176
          case hy176 => intro W hSW; (try dsimp only at hSW); obtain ⟨e1, e2, e3, e4, e5⟩ := hSW; go_simp <;> with_reducible rfl
          try simp only [Act.put, lsa, lsb, lsc]
          refine EG_take 4 (v := ?v177) (by simp only [lga, lgb, lgc]; rfl) (by kernel_rfl) (by kernel_rfl) (by decide) (fun _ _ _ h => h) (Or.inl ⟨by rfl, ?hy177⟩) (KEEP.out _ (ext_drew _)) ?rest177
          case hy177 => intro W hSW; (try dsimp only at hSW); obtain ⟨e1, e2, e3, e4, e5⟩ := hSW; go_simp <;> with_reducible rfl
          try simp only [Act.put, lsa, lsb, lsc]
          refine EG_take 5 (v := ?v178) (by simp only [lga, lgb, lgc]; rfl) (by kernel_rfl) (by kernel_rfl) (by decide) (fun _ _ _ h => h) (Or.inl ⟨by rfl, ?hy178⟩) (KEEP.out _ (ext_drew _)) ?rest178
          case hy178 => intro W hSW; (try dsimp only at hSW); obtain ⟨e1, e2, e3, e4, e5⟩ := hSW; go_simp <;> with_reducible rfl
          try simp only [Act.put, lsa, lsb, lsc]
          refine EG_take 6 (v := ?v179) (by simp only [lga, lgb, lgc]; rfl) (by kernel_rfl) (by kernel_rfl) (by decide) (fun _ _ _ h => h) (Or.inl ⟨by rfl, ?hy179⟩) (KEEP.out _ (ext_drew _)) ?rest179
          case hy179 => intro W hSW; (try dsimp only at hSW); obtain ⟨e1, e2, e3, e4, e5⟩ := hSW; go_simp <;> with_reducible rfl
          try simp only [Act.put, lsa, lsb, lsc]
          refine EG_take 7 (v := ?v180) (by simp only [lga, lgb, lgc]; rfl) (by kernel_rfl) (by kernel_rfl) (by decide) (fun _ _ _ h => h) (Or.inl ⟨by rfl, ?hy180⟩) (KEEP.out _ (ext_drew _)) ?rest180
          case hy180 => intro W hSW; (try dsimp only at hSW); obtain ⟨e1, e2, e3, e4, e5⟩ := hSW; go_simp <;> with_reducible rfl
          try simp only [Act.put, lsa, lsb, lsc]
          refine EG_take 8 (v := ?v181) (by simp only [lga, lgb, lgc]; rfl) (by kernel_rfl) (by kernel_rfl) (by decide) (fun _ _ _ h => h) (Or.inl ⟨by rfl, ?hy181⟩) (KEEP.out _ (ext_drew _)) ?rest181
          case hy181 => intro W hSW; (try dsimp only at hSW); obtain ⟨e1, e2, e3, e4, e5⟩ := hSW; go_simp <;> with_reducible rfl
          try simp only [Act.put, lsa, lsb, lsc]
          refine EG_take 9 (v := ?v182) (by simp only [lga, lgb, lgc]; rfl) (by kernel_rfl) (by kernel_rfl) (by decide) (fun _ _ _ h => h) (Or.inl ⟨by rfl, ?hy182⟩) (KEEP.out _ (ext_drew _)) ?rest182
          case hy182 => intro W hSW; (try dsimp only at hSW); obtain ⟨e1, e2, e3, e4, e5⟩ := hSW; go_simp <;> with_reducible rfl
          try simp only [Act.put, lsa, lsb, lsc]
          refine EG_take 10 (v := ?v183) (by simp only [lga, lgb, lgc]; rfl) (by kernel_rfl) (by kernel_rfl) (by decide) (fun _ _ _ h => h) (Or.inl ⟨by rfl, ?hy183⟩) (KEEP.out _ (ext_drew _)) ?rest183
          case hy183 => intro W hSW; (try dsimp only at hSW); obtain ⟨e1, e2, e3, e4, e5⟩ := hSW; go_simp <;> with_reducible rfl
          try simp only [Act.put, lsa, lsb, lsc]
          refine EG_take 11 (v := ?v184) (by simp only [lga, lgb, lgc]; rfl) (by kernel_rfl) (by kernel_rfl) (by decide) (fun _ _ _ h => h) (Or.inl ⟨by rfl, ?hy184⟩) (KEEP.out _ (ext_drew _)) ?rest184
          case hy184 => intro W hSW; (try dsimp only at hSW); obtain ⟨e1, e2, e3, e4, e5⟩ := hSW; go_simp <;> with_reducible rfl
          try simp only [Act.put, lsa, lsb, lsc]
          refine EG_take 12 (v := ?v185) (by simp only [lga, lgb, lgc]; rfl) (by kernel_rfl) (by kernel_rfl) (by decide) (fun _ _ _ h => h) (Or.inl ⟨by rfl, ?hy185⟩) (KEEP.out _ (ext_drew _)) ?rest185
          case hy185 => intro W hSW; (try dsimp only at hSW); obtain ⟨e1, e2, e3, e4, e5⟩ := hSW; go_simp <;> with_reducible rfl
          try simp only [Act.put, lsa, lsb, lsc]
          refine EG_take 13 (v := ?v186) (by simp only [lga, lgb, lgc]; rfl) (by kernel_rfl) (by kernel_rfl) (by decide) (fun _ _ _ h => h) (Or.inl ⟨by rfl, ?hy186⟩) (KEEP.out _ (ext_drew _)) ?rest186
          case hy186 => intro W hSW; (try dsimp only at hSW); obtain ⟨e1, e2, e3, e4, e5⟩ := hSW; go_simp <;> with_reducible rfl
          try simp only [Act.put, lsa, lsb, lsc]
          refine EG_take 14 (v := ?v187) (by simp only [lga, lgb, lgc]; rfl) (by kernel_rfl) (by kernel_rfl) (by decide) (fun _ _ _ h => h) (Or.inl ⟨by rfl, ?hy187⟩) (KEEP.out _ (ext_drew _)) ?rest187
          case hy187 => intro W hSW; (try dsimp only at hSW); obtain ⟨e1, e2, e3, e4, e5⟩ := hSW; go_simp <;> with_reducible rfl
          try simp only [Act.put, lsa, lsb, lsc]
          refine EG_take 15 (v := ?v188) (by simp only [lga, lgb, lgc]; rfl) (by kernel_rfl) (by kernel_rfl) (by decide) (fun _ _ _ h => h) (Or.inl ⟨by rfl, ?hy188⟩) (KEEP.out _ (ext_drew _)) ?rest188
          case hy188 => intro W hSW; (try dsimp only at hSW); obtain ⟨e1, e2, e3, e4, e5⟩ := hSW; go_simp <;> with_reducible rfl
          try simp only [Act.put, lsa, lsb, lsc]
          refine EG_take 16 (v := ?v189) (by simp only [lga, lgb, lgc]; rfl) (by kernel_rfl) (by kernel_rfl) (by decide) (fun _ _ _ h => h) (Or.inl ⟨by rfl, ?hy189⟩) (KEEP.out _ (ext_drew _)) ?rest189
          case hy189 => intro W hSW; (try dsimp only at hSW); obtain ⟨e1, e2, e3, e4, e5⟩ := hSW; go_simp <;> with_reducible rfl
          try simp only [Act.put, lsa, lsb, lsc]
          refine EG_take 17 (v := ?v190) (by simp only [lga, lgb, lgc]; rfl) (by kernel_rfl) (by kernel_rfl) (by decide) (fun _ _ _ h => h) (Or.inl ⟨by rfl, ?hy190⟩) (KEEP.out _ (ext_drew _)) ?rest190
          case hy190 => intro W hSW; (try dsimp only at hSW); obtain ⟨e1, e2, e3, e4, e5⟩ := hSW; go_simp <;> with_reducible rfl
          try simp only [Act.put, lsa, lsb, lsc]
          refine EG_take 18 (v := ?v191) (by simp only [lga, lgb, lgc]; rfl) (by kernel_rfl) (by kernel_rfl) (by decide) (fun _ _ _ h => h) (Or.inl ⟨by rfl, ?hy191⟩) (KEEP.out _ (ext_drew _)) ?rest191
          case hy191 => intro W hSW; (try dsimp only at hSW); obtain ⟨e1, e2, e3, e4, e5⟩ := hSW; go_simp <;> with_reducible rfl
          try simp only [Act.put, lsa, lsb, lsc]
          refine EG_take 19 (v := ?v192) (by simp only [lga, lgb, lgc]; rfl) (by kernel_rfl) (by kernel_rfl) (by decide) (fun _ _ _ h => h) (Or.inl ⟨by rfl, ?hy192⟩) (KEEP.out _ (ext_drew _)) ?rest192
          case hy192 => intro W hSW; (try dsimp only at hSW); obtain ⟨e1, e2, e3, e4, e5⟩ := hSW; go_simp <;> with_reducible rfl
          try simp only [Act.put, lsa, lsb, lsc]
          refine EG_take 20 (v := ?v193) (by simp only [lga, lgb, lgc]; rfl) (by kernel_rfl) (by kernel_rfl) (by decide) (fun _ _ _ h => h) (Or.inl ⟨by rfl, ?hy193⟩) (KEEP.out _ (ext_drew _)) ?rest193
          case hy193 => intro W hSW; (try dsimp only at hSW); obtain ⟨e1, e2, e3, e4, e5⟩ := hSW; go_simp <;> with_reducible rfl
          try simp only [Act.put, lsa, lsb, lsc]
          refine EG_take 21 (v := ?v194) (by simp only [lga, lgb, lgc]; rfl) (by kernel_rfl) (by kernel_rfl) (by decide) (fun _ _ _ h => h) (Or.inl ⟨by rfl, ?hy194⟩) (KEEP.out _ (ext_drew _)) ?rest194
          case hy194 => intro W hSW; (try dsimp only at hSW); obtain ⟨e1, e2, e3, e4, e5⟩ := hSW; go_simp <;> with_reducible rfl
          try simp only [Act.put, lsa, lsb, lsc]
          refine EG_take 22 (v := undef) (by simp only [lga, lgb, lgc]; rfl) (by kernel_rfl) (by kernel_rfl) (by decide) (fun _ _ _ h => h) (Or.inr ⟨by rfl, rfl⟩) (KEEP.out _ (ext_drew _)) ?rest195
          try simp only [Act.put, lsa, lsb, lsc]
          refine EG_take 23 (v := undef) (by simp only [lga, lgb, lgc]; rfl) (by kernel_rfl) (by kernel_rfl) (by decide) (fun _ _ _ h => h) (Or.inr ⟨by rfl, rfl⟩) (KEEP.out _ (ext_drew _)) ?rest196
          try simp only [Act.put, lsa, lsb, lsc]
          refine EG_take 24 (v := undef) (by simp only [lga, lgb, lgc]; rfl) (by kernel_rfl) (by kernel_rfl) (by decide) (fun _ _ _ h => h) (Or.inr ⟨by rfl, rfl⟩) (KEEP.out _ (ext_drew _)) ?rest197
          try simp only [Act.put, lsa, lsb, lsc]
          refine EG_take 25 (v := undef) (by simp only [lga, lgb, lgc]; rfl) (by kernel_rfl) (by kernel_rfl) (by decide) (fun _ _ _ h => h) (Or.inr ⟨by rfl, rfl⟩) (KEEP.out _ (ext_drew _)) ?rest198
          try simp only [Act.put, lsa, lsb, lsc]
          refine EG_take 26 (v := undef) (by simp only [lga, lgb, lgc]; rfl) (by kernel_rfl) (by kernel_rfl) (by decide) (fun _ _ _ h => h) (Or.inr ⟨by rfl, rfl⟩) (KEEP.out _ (ext_drew _)) ?rest199
          try simp only [Act.put, lsa, lsb, lsc]
          refine EG_take 27 (v := undef) (by simp only [lga, lgb, lgc]; rfl) (by kernel_rfl) (by kernel_rfl) (by decide) (fun _ _ _ h => h) (Or.inr ⟨by rfl, rfl⟩) (KEEP.out _ (ext_drew _)) ?rest200
          try simp only [Act.put, lsa, lsb, lsc]
          refine EG_take 28 (v := undef) (by simp only [lga, lgb, lgc]; rfl) (by kernel_rfl) (by kernel_rfl) (by decide) (fun _ _ _ h => h) (Or.inr ⟨by rfl, rfl⟩) (KEEP.out _ (ext_drew _)) ?rest201
          try simp only [Act.put, lsa, lsb, lsc]
          refine EG_take 29 (v := undef) (by simp only [lga, lgb, lgc]; rfl) (by kernel_rfl) (by kernel_rfl) (by decide) (fun _ _ _ h => h) (Or.inr ⟨by rfl, rfl⟩) (KEEP.out _ (ext_drew _)) ?rest202
          try simp only [Act.put, lsa, lsb, lsc]
          refine EG_take 30 (v := undef) (by simp only [lga, lgb, lgc]; rfl) (by kernel_rfl) (by kernel_rfl) (by decide) (fun _ _ _ h => h) (Or.inr ⟨by rfl, rfl⟩) (KEEP.out _ (ext_drew _)) ?rest203
          try simp only [Act.put, lsa, lsb, lsc]
          refine EG_take 31 (v := undef) (by simp only [lga, lgb, lgc]; rfl) (by kernel_rfl) (by kernel_rfl) (by decide) (fun _ _ _ h => h) (Or.inr ⟨by rfl, rfl⟩) (KEEP.out _ (ext_drew _)) ?rest204
          try simp only [Act.put, lsa, lsb, lsc]
          refine EG_take 32 (v := undef) (by simp only [lga, lgb, lgc]; rfl) (by kernel_rfl) (by kernel_rfl) (by decide) (fun _ _ _ h => h) (Or.inr ⟨by rfl, rfl⟩) (KEEP.out _ (ext_drew _)) ?rest205
          try simp only [Act.put, lsa, lsb, lsc]
          refine EG_take 33 (v := undef) (by simp only [lga, lgb, lgc]; rfl) (by kernel_rfl) (by kernel_rfl) (by decide) (fun _ _ _ h => h) (Or.inr ⟨by rfl, rfl⟩) (KEEP.out _ (ext_drew _)) ?rest206
          try simp only [Act.put, lsa, lsb, lsc]
          refine EG_take 34 (v := undef) (by simp only [lga, lgb, lgc]; rfl) (by kernel_rfl) (by kernel_rfl) (by decide) (fun _ _ _ h => h) (Or.inr ⟨by rfl, rfl⟩) (KEEP.out _ (ext_drew _)) ?rest207
          try simp only [Act.put, lsa, lsb, lsc]
          refine EG_take 35 (v := undef) (by simp only [lga, lgb, lgc]; rfl) (by kernel_rfl) (by kernel_rfl) (by decide) (fun _ _ _ h => h) (Or.inr ⟨by rfl, rfl⟩) (KEEP.out _ (ext_drew _)) ?rest208
          try simp only [Act.put, lsa, lsb, lsc]
          refine EG_take 36 (v := undef) (by simp only [lga, lgb, lgc]; rfl) (by kernel_rfl) (by kernel_rfl) (by decide) (fun _ _ _ h => h) (Or.inr ⟨by rfl, rfl⟩) (KEEP.out _ (ext_drew _)) ?rest209
          try simp only [Act.put, lsa, lsb, lsc]
          refine EG_take 37 (v := undef) (by simp only [lga, lgb, lgc]; rfl) (by kernel_rfl) (by kernel_rfl) (by decide) (fun _ _ _ h => h) (Or.inr ⟨by rfl, rfl⟩) (KEEP.out _ (ext_drew _)) ?rest210
          try simp only [Act.put, lsa, lsb, lsc]
          refine EG_take 38 (v := undef) (by simp only [lga, lgb, lgc]; rfl) (by kernel_rfl) (by kernel_rfl) (by decide) (fun _ _ _ h => h) (Or.inr ⟨by rfl, rfl⟩) (KEEP.out _ (ext_drew _)) ?rest211
          try simp only [Act.put, lsa, lsb, lsc]
          refine EG_take 39 (v := undef) (by simp only [lga, lgb, lgc]; rfl) (by kernel_rfl) (by kernel_rfl) (by decide) (fun _ _ _ h => h) (Or.inr ⟨by rfl, rfl⟩) (KEEP.out _ (ext_drew _)) ?rest212
          try simp only [Act.put, lsa, lsb, lsc]
          refine EG_take 40 (v := undef) (by simp only [lga, lgb, lgc]; rfl) (by kernel_rfl) (by kernel_rfl) (by decide) (fun _ _ _ h => h) (Or.inr ⟨by rfl, rfl⟩) (KEEP.out _ (ext_drew _)) ?rest213
          try simp only [Act.put, lsa, lsb, lsc]
          refine EG_take 41 (v := undef) (by simp only [lga, lgb, lgc]; rfl) (by kernel_rfl) (by kernel_rfl) (by decide) (fun _ _ _ h => h) (Or.inr ⟨by rfl, rfl⟩) (KEEP.out _ (ext_drew _)) ?rest214
          try simp only [Act.put, lsa, lsb, lsc]
          refine EG_take 42 (v := undef) (by simp only [lga, lgb, lgc]; rfl) (by kernel_rfl) (by kernel_rfl) (by decide) (fun _ _ _ h => h) (Or.inr ⟨by rfl, rfl⟩) (KEEP.out _ (ext_drew _)) ?rest215
          try simp only [Act.put, lsa, lsb, lsc]
          refine EG_end (by kernel_rfl) (by simp only [lga, lgb, lgc]; rfl) ?_
          intro K hK0
          have hK := hid hK0
          clear hK0
          go_simp
          refine hK.out _ _ ?_
          clear hK K
          refine NoPanic.normal ?_
          go_wp2_with fail
          go_meet
          exact ⟨by rw [HSV.out, HQ1.out, HQ2.out]; rfl, ext_drew _⟩
      · have HQ1 := hid (show decide (tm < tl) = false from by simpa using q1)
        have q1 := HQ1.out
        refine wp_region_noPanic ?_
        refine region_E (S := fun W => W.cell? ⟨g, 1, none⟩ = some (.slice (some ⟨b, o, none⟩) n c) ∧ W.cell? ⟨g, 2, none⟩ = some (.int .i64 tm) ∧ W.cell? ⟨b, o + i * 10 + 2, none⟩ = some (.int .i64 tl) ∧ W.cell? ⟨b, o + i * 10 + 3, none⟩ = some (.bool ib) ∧ W.cell? ⟨b, o + i * 10 + 9, none⟩ = some (.int .i64 rk)) 43 (by kernel_rfl) (by kernel_rfl) (by kernel_rfl) ?_
        refine EG_take 0 (v := ?v216) (by simp only [lga, lgb, lgc]; rfl) (by kernel_rfl) (by kernel_rfl) (by decide) (fun _ _ _ h => h) (Or.inl ⟨by rfl, ?hy216⟩) (KEEP.out _ (ext_drew _)) ?rest216
        case hy216 => intro W hSW; (try dsimp only at hSW); obtain ⟨e1, e2, e3, e4, e5⟩ := hSW; go_simp <;> with_reducible rfl
        try simp only [Act.put, lsa, lsb, lsc]
        refine EG_take 1 (v := ?v217) (by simp only [lga, lgb, lgc]; rfl) (by kernel_rfl) (by kernel_rfl) (by decide) (fun _ _ _ h => h) (Or.inl ⟨by rfl, ?hy217⟩) (KEEP.out _ (ext_drew _)) ?rest217
        case hy217 => intro W hSW; (try dsimp only at hSW); obtain ⟨e1, e2, e3, e4, e5⟩ := hSW; go_simp <;> with_reducible rfl
        try simp only [Act.put, lsa, lsb, lsc]
        refine EG_take 2 (v := ?v218) (by simp only [lga, lgb, lgc]; rfl) (by kernel_rfl) (by kernel_rfl) (by decide) (fun _ _ _ h => h) (Or.inl ⟨by rfl, ?hy218⟩) (KEEP.out _ (ext_drew _)) ?rest218
        case hy218 => intro W hSW; (try dsimp only at hSW); obtain ⟨e1, e2, e3, e4, e5⟩ := hSW; go_simp <;> with_reducible rfl
        try simp only [Act.put, lsa, lsb, lsc]
        refine EG_take 3 (v := ?v219) (by simp only [lga, lgb, lgc]; rfl) (by kernel_rfl) (by kernel_rfl) (by decide) (fun _ _ _ h => h) (Or.inl ⟨by rfl, ?hy219⟩) (KEEP.out _ (ext_drew _)) ?rest219
        case hy219 => intro W hSW; (try dsimp only at hSW); obtain ⟨e1, e2, e3, e4, e5⟩ := hSW; go_simp <;> with_reducible rfl
        try simp only [Act.put, lsa, lsb, lsc]
        refine EG_take 4 (v := ?v220) (by simp only [lga, lgb, lgc]; rfl) (by kernel_rfl) (by kernel_rfl) (by decide) (fun _ _ _ h => h) (Or.inl ⟨by rfl, ?hy220⟩) (KEEP.out _ (ext_drew _)) ?rest220
        case hy220 => intro W hSW; (try dsimp only at hSW); obtain ⟨e1, e2, e3, e4, e5⟩ := hSW; go_simp <;> with_reducible rfl
        try simp only [Act.put, lsa, lsb, lsc]
        refine EG_take 5 (v := ?v221) (by simp only [lga, lgb, lgc]; rfl) (by kernel_rfl) (by kernel_rfl) (by decide) (fun _ _ _ h => h) (Or.inl ⟨by rfl, ?hy221⟩) (KEEP.out _ (ext_drew _)) ?rest221
        case hy221 => intro W hSW; (try dsimp only at hSW); obtain ⟨e1, e2, e3, e4, e5⟩ := hSW; go_simp <;> with_reducible rfl
        try simp only [Act.put, lsa, lsb, lsc]
        refine EG_take 6 (v := ?v222) (by simp only [lga, lgb, lgc]; rfl) (by kernel_rfl) (by kernel_rfl) (by decide) (fun _ _ _ h => h) (Or.inl ⟨by rfl, ?hy222⟩) (KEEP.out _ (ext_drew _)) ?rest222
        case hy222 => intro W hSW; (try dsimp only at hSW); obtain ⟨e1, e2, e3, e4, e5⟩ := hSW; go_simp <;> with_reducible rfl
        try simp only [Act.put, lsa, lsb, lsc]
        refine EG_take 7 (v := ?v223) (by simp only [lga, lgb, lgc]; rfl) (by kernel_rfl) (by kernel_rfl) (by decide) (fun _ _ _ h => h) (Or.inl ⟨by rfl, ?hy223⟩) (KEEP.out _ (ext_drew _)) ?rest223
        case hy223 => intro W hSW; (try dsimp only at hSW); obtain ⟨e1, e2, e3, e4, e5⟩ := hSW; go_simp <;> with_reducible rfl
        try simp only [Act.put, lsa, lsb, lsc]
        refine EG_take 8 (v := ?v224) (by simp only [lga, lgb, lgc]; rfl) (by kernel_rfl) (by kernel_rfl) (by decide) (fun _ _ _ h => h) (Or.inl ⟨by rfl, ?hy224⟩) (KEEP.out _ (ext_drew _)) ?rest224
        case hy224 => intro W hSW; (try dsimp only at hSW); obtain ⟨e1, e2, e3, e4, e5⟩ := hSW; go_simp <;> with_reducible rfl
        try simp only [Act.put, lsa, lsb, lsc]
        refine EG_take 9 (v := ?v225) (by simp only [lga, lgb, lgc]; rfl) (by kernel_rfl) (by kernel_rfl) (by decide) (fun _ _ _ h => h) (Or.inl ⟨by rfl, ?hy225⟩) (KEEP.out _ (ext_drew _)) ?rest225
        case hy225 => intro W hSW; (try dsimp only at hSW); obtain ⟨e1, e2, e3, e4, e5⟩ := hSW; go_simp <;> with_reducible rfl
        try simp only [Act.put, lsa, lsb, lsc]
        refine EG_take 10 (v := ?v226) (by simp only [lga, lgb, lgc]; rfl) (by kernel_rfl) (by kernel_rfl) (by decide) (fun _ _ _ h => h) (Or.inl ⟨by rfl, ?hy226⟩) (KEEP.out _ (ext_drew _)) ?rest226
        case hy226 => intro W hSW; (try dsimp only at hSW); obtain ⟨e1, e2, e3, e4, e5⟩ := hSW; go_simp <;> with_reducible rfl
        try simp only [Act.put, lsa, lsb, lsc]
        refine EG_take 11 (v := ?v227) (by simp only [lga, lgb, lgc]; rfl) (by kernel_rfl) (by kernel_rfl) (by decide) (fun _ _ _ h => h) (Or.inl ⟨by rfl, ?hy227⟩) (KEEP.out _ (ext_drew _)) ?rest227
        case hy227 => intro W hSW; (try dsimp only at hSW); obtain ⟨e1, e2, e3, e4, e5⟩ := hSW; go_simp <;> with_reducible rfl
        try simp only [Act.put, lsa, lsb, lsc]
        refine EG_take 12 (v := ?v228) (by simp only [lga, lgb, lgc]; rfl) (by kernel_rfl) (by kernel_rfl) (by decide) (fun _ _ _ h => h) (Or.inl ⟨by rfl, ?hy228⟩) (KEEP.out _ (ext_drew _)) ?rest228
        case hy228 => intro W hSW; (try dsimp only at hSW); obtain ⟨e1, e2, e3, e4, e5⟩ := hSW; go_simp <;> with_reducible rfl
        try simp only [Act.put, lsa, lsb, lsc]
        refine EG_take 13 (v := ?v229) (by simp only [lga, lgb, lgc]; rfl) (by kernel_rfl) (by kernel_rfl) (by decide) (fun _ _ _ h => h) (Or.inl ⟨by rfl, ?hy229⟩) (KEEP.out _ (ext_drew _)) ?rest229
        case hy229 => intro W hSW; (try dsimp only at hSW); obtain ⟨e1, e2, e3, e4, e5⟩ := hSW; go_simp <;> with_reducible rfl
        try simp only [Act.put, lsa, lsb, lsc]
        refine EG_take 14 (v := ?v230) (by simp only [lga, lgb, lgc]; rfl) (by kernel_rfl) (by kernel_rfl) (by decide) (fun _ _ _ h => h) (Or.inl ⟨by rfl, ?hy230⟩) (KEEP.out _ (ext_drew _)) ?rest230
        case hy230 => intro W hSW; (try dsimp only at hSW); obtain ⟨e1, e2, e3, e4, e5⟩ := hSW; go_simp <;> with_reducible rfl
        try simp only [Act.put, lsa, lsb, lsc]
        refine EG_take 15 (v := ?v231) (by simp only [lga, lgb, lgc]; rfl) (by kernel_rfl) (by kernel_rfl) (by decide) (fun _ _ _ h => h) (Or.inl ⟨by rfl, ?hy231⟩) (KEEP.out _ (ext_drew _)) ?rest231
        case hy231 => intro W hSW; (try dsimp only at hSW); obtain ⟨e1, e2, e3, e4, e5⟩ := hSW; go_simp <;> with_reducible rfl
        try simp only [Act.put, lsa, lsb, lsc]
        refine EG_take 16 (v := ?v232) (by simp only [lga, lgb, lgc]; rfl) (by kernel_rfl) (by kernel_rfl) (by decide) (fun _ _ _ h => h) (Or.inl ⟨by rfl, ?hy232⟩) (KEEP.out _ (ext_drew _)) ?rest232
        case hy232 => intro W hSW; (try dsimp only at hSW); obtain ⟨e1, e2, e3, e4, e5⟩ := hSW; go_simp <;> with_reducible rfl
        try simp only [Act.put, lsa, lsb, lsc]
        refine EG_take 17 (v := ?v233) (by simp only [lga, lgb, lgc]; rfl) (by kernel_rfl) (by kernel_rfl) (by decide) (fun _ _ _ h => h) (Or.inl ⟨by rfl, ?hy233⟩) (KEEP.out _ (ext_drew _)) ?rest233
        case hy233 => intro W hSW; (try dsimp only at hSW); obtain ⟨e1, e2, e3, e4, e5⟩ := hSW; go_simp <;> with_reducible rfl
        try simp only [Act.put, lsa, lsb, lsc]
        refine EG_take 18 (v := undef) (by simp only [lga, lgb, lgc]; rfl) (by kernel_rfl) (by kernel_rfl) (by decide) (fun _ _ _ h => h) (Or.inr ⟨by rfl, rfl⟩) (KEEP.out _ (ext_drew _)) ?rest234
        try simp only [Act.put, lsa, lsb, lsc]
        refine EG_take 19 (v := undef) (by simp only [lga, lgb, lgc]; rfl) (by kernel_rfl) (by kernel_rfl) (by decide) (fun _ _ _ h => h) (Or.inr ⟨by rfl, rfl⟩) (KEEP.out _ (ext_drew _)) ?rest235
        try simp only [Act.put, lsa, lsb, lsc]
        refine EG_take 20 (v := ?v236) (by simp only [lga, lgb, lgc]; rfl) (by kernel_rfl) (by kernel_rfl) (by decide) (fun _ _ _ h => h) (Or.inl ⟨by rfl, ?hy236⟩) (KEEP.out _ (ext_drew _)) ?rest236
        case hy236 => intro W hSW; (try dsimp only at hSW); obtain ⟨e1, e2, e3, e4, e5⟩ := hSW; go_simp <;> with_reducible rfl
        try simp only [Act.put, lsa, lsb, lsc]
        refine EG_take 21 (v := ?v237) (by simp only [lga, lgb, lgc]; rfl) (by kernel_rfl) (by kernel_rfl) (by decide) (fun _ _ _ h => h) (Or.inl ⟨by rfl, ?hy237⟩) (KEEP.out _ (ext_drew _)) ?rest237
        case hy237 => intro W hSW; (try dsimp only at hSW); obtain ⟨e1, e2, e3, e4, e5⟩ := hSW; go_simp <;> with_reducible rfl
        try simp only [Act.put, lsa, lsb, lsc]
        refine EG_take 22 (v := undef) (by simp only [lga, lgb, lgc]; rfl) (by kernel_rfl) (by kernel_rfl) (by decide) (fun _ _ _ h => h) (Or.inr ⟨by rfl, rfl⟩) (KEEP.out _ (ext_drew _)) ?rest238
        try simp only [Act.put, lsa, lsb, lsc]
        refine EG_take 23 (v := undef) (by simp only [lga, lgb, lgc]; rfl) (by kernel_rfl) (by kernel_rfl) (by decide) (fun _ _ _ h => h) (Or.inr ⟨by rfl, rfl⟩) (KEEP.out _ (ext_drew _)) ?rest239
        try simp only [Act.put, lsa, lsb, lsc]
        refine EG_take 24 (v := undef) (by simp only [lga, lgb, lgc]; rfl) (by kernel_rfl) (by kernel_rfl) (by decide) (fun _ _ _ h => h) (Or.inr ⟨by rfl, rfl⟩) (KEEP.out _ (ext_drew _)) ?rest240
        try simp only [Act.put, lsa, lsb, lsc]
        refine EG_take 25 (v := undef) (by simp only [lga, lgb, lgc]; rfl) (by kernel_rfl) (by kernel_rfl) (by decide) (fun _ _ _ h => h) (Or.inr ⟨by rfl, rfl⟩) (KEEP.out _ (ext_drew _)) ?rest241
        try simp only [Act.put, lsa, lsb, lsc]
        refine EG_take 26 (v := undef) (by simp only [lga, lgb, lgc]; rfl) (by kernel_rfl) (by kernel_rfl) (by decide) (fun _ _ _ h => h) (Or.inr ⟨by rfl, rfl⟩) (KEEP.out _ (ext_drew _)) ?rest242
        try simp only [Act.put, lsa, lsb, lsc]
        refine EG_take 27 (v := undef) (by simp only [lga, lgb, lgc]; rfl) (by kernel_rfl) (by kernel_rfl) (by decide) (fun _ _ _ h => h) (Or.inr ⟨by rfl, rfl⟩) (KEEP.out _ (ext_drew _)) ?rest243
        try simp only [Act.put, lsa, lsb, lsc]
        refine EG_take 28 (v := undef) (by simp only [lga, lgb, lgc]; rfl) (by kernel_rfl) (by kernel_rfl) (by decide) (fun _ _ _ h => h) (Or.inr ⟨by rfl, rfl⟩) (KEEP.out _ (ext_drew _)) ?rest244
        try simp only [Act.put, lsa, lsb, lsc]
        refine EG_take 29 (v := undef) (by simp only [lga, lgb, lgc]; rfl) (by kernel_rfl) (by kernel_rfl) (by decide) (fun _ _ _ h => h) (Or.inr ⟨by rfl, rfl⟩) (KEEP.out _ (ext_drew _)) ?rest245
        try simp only [Act.put, lsa, lsb, lsc]
        refine EG_take 30 (v := undef) (by simp only [lga, lgb, lgc]; rfl) (by kernel_rfl) (by kernel_rfl) (by decide) (fun _ _ _ h => h) (Or.inr ⟨by rfl, rfl⟩) (KEEP.out _ (ext_drew _)) ?rest246
        try simp only [Act.put, lsa, lsb, lsc]
        refine EG_take 31 (v := undef) (by simp only [lga, lgb, lgc]; rfl) (by kernel_rfl) (by kernel_rfl) (by decide) (fun _ _ _ h => h) (Or.inr ⟨by rfl, rfl⟩) (KEEP.out _ (ext_drew _)) ?rest247
        try simp only [Act.put, lsa, lsb, lsc]
        refine EG_take 32 (v := undef) (by simp only [lga, lgb, lgc]; rfl) (by kernel_rfl) (by kernel_rfl) (by decide) (fun _ _ _ h => h) (Or.inr ⟨by rfl, rfl⟩) (KEEP.out _ (ext_drew _)) ?rest248
        try simp only [Act.put, lsa, lsb, lsc]
        refine EG_take 33 (v := undef) (by simp only [lga, lgb, lgc]; rfl) (by kernel_rfl) (by kernel_rfl) (by decide) (fun _ _ _ h => h) (Or.inr ⟨by rfl, rfl⟩) (KEEP.out _ (ext_drew _)) ?rest249
        try simp only [Act.put, lsa, lsb, lsc]
        refine EG_take 34 (v := undef) (by simp only [lga, lgb, lgc]; rfl) (by kernel_rfl) (by kernel_rfl) (by decide) (fun _ _ _ h => h) (Or.inr ⟨by rfl, rfl⟩) (KEEP.out _ (ext_drew _)) ?rest250
        try simp only [Act.put, lsa, lsb, lsc]
        refine EG_take 35 (v := undef) (by simp only [lga, lgb, lgc]; rfl) (by kernel_rfl) (by kernel_rfl) (by decide) (fun _ _ _ h => h) (Or.inr ⟨by rfl, rfl⟩) (KEEP.out _ (ext_drew _)) ?rest251
        try simp only [Act.put, lsa, lsb, lsc]
        refine EG_take 36 (v := undef) (by simp only [lga, lgb, lgc]; rfl) (by kernel_rfl) (by kernel_rfl) (by decide) (fun _ _ _ h => h) (Or.inr ⟨by rfl, rfl⟩) (KEEP.out _ (ext_drew _)) ?rest252
        try simp only [Act.put, lsa, lsb, lsc]
        refine EG_take 37 (v := undef) (by simp only [lga, lgb, lgc]; rfl) (by kernel_rfl) (by kernel_rfl) (by decide) (fun _ _ _ h => h) (Or.inr ⟨by rfl, rfl⟩) (KEEP.out _ (ext_drew _)) ?rest253
        try simp only [Act.put, lsa, lsb, lsc]
        refine EG_take 38 (v := undef) (by simp only [lga, lgb, lgc]; rfl) (by kernel_rfl) (by kernel_rfl) (by decide) (fun _ _ _ h => h) (Or.inr ⟨by rfl, rfl⟩) (KEEP.out _ (ext_drew _)) ?rest254
        try simp only [Act.put, lsa, lsb, lsc]
        refine EG_take 39 (v := undef) (by simp only [lga, lgb, lgc]; rfl) (by kernel_rfl) (by kernel_rfl) (by decide) (fun _ _ _ h => h) (Or.inr ⟨by rfl, rfl⟩) (KEEP.out _ (ext_drew _)) ?rest255
        try simp only [Act.put, lsa, lsb, lsc]
        refine EG_take 40 (v := undef) (by simp only [lga, lgb, lgc]; rfl) (by kernel_rfl) (by kernel_rfl) (by decide) (fun _ _ _ h => h) (Or.inr ⟨by rfl, rfl⟩) (KEEP.out _ (ext_drew _)) ?rest256
        try simp only [Act.put, lsa, lsb, lsc]
        refine EG_take 41 (v := undef) (by simp only [lga, lgb, lgc]; rfl) (by kernel_rfl) (by kernel_rfl) (by decide) (fun _ _ _ h => h) (Or.inr ⟨by rfl, rfl⟩) (KEEP.out _ (ext_drew _)) ?rest257
        try simp only [Act.put, lsa, lsb, lsc]
        refine EG_take 42 (v := undef) (by simp only [lga, lgb, lgc]; rfl) (by kernel_rfl) (by kernel_rfl) (by decide) (fun _ _ _ h => h) (Or.inr ⟨by rfl, rfl⟩) (KEEP.out _ (ext_drew _)) ?rest258
        try simp only [Act.put, lsa, lsb, lsc]
        refine EG_end (by kernel_rfl) (by simp only [lga, lgb, lgc]; rfl) ?_
        intro K hK0
        have hK := hid hK0
        clear hK0
        go_simp
        refine hK.out _ _ ?_
        clear hK K
        refine NoPanic.normal ?_
        go_wp2_with fail
        go_meet
        exact ⟨by rw [HSV.out, HQ1.out]; rfl, ext_drew _⟩
  case rest =>
    obtain ⟨rfl, x5⟩ := hcut
    obtain ⟨w5, hw5⟩ : ∃ w5, w5 = wc := ⟨_, rfl⟩
    subst hw5
    have H5 := hid (H4.out.ext x5)
    have B5 := hid (B4.out.ext x5)
    have S5 := hid (S4.out.ext x5)
    clear x5 H4 B4 S4
    cases stay
    rotate_left
    · have hp := hid (HP1.out rfl)
      go_wp2_with fail
      go_ret2
      rw [hp.out]
      exact ⟨rfl, ⟨A, c, T, H5.out, rfl, .inl HVV.out.1, fun h0 k hk => .inl (HVV.out.2.1 h0 k hk), fun t ht h0 k hk => .inl (HVV.out.2.2 t ht h0 k hk)⟩, S5.out⟩
    · have HGO := hid (HP2.out rfl)
      clear HP1 HP2
      have AT := at_in H5.out (n := s.nm) (kind := 0) HNM.out
      obtain ⟨o2, ho2⟩ : ∃ o2, idxT T (lower s.nm) 0 = o2 := ⟨_, rfl⟩
      rw [ho2] at AT
      obtain ⟨v2, hv2⟩ : ∃ v, idxV o2 = v := ⟨_, rfl⟩
      rw [hv2] at AT
      have HV2 := hid hv2
      clear hv2
      have IX2 := idxT_cases T (lower s.nm) 0
      rw [ho2] at IX2
      have IX2 := hid IX2
      have HO2 := hid ho2
      clear ho2
      have k0 : w5.cell? ⟨gs, 0, none⟩ = some (.string (str s.nm)) := B5.out.cell 0
      go_wp2_with fail
      refine AT.mono ?_
      rintro e w6 ⟨rfl, x6⟩
      have H6 := hid (H5.out.ext x6)
      have B6 := hid (B5.out.ext x6)
      have S6 := hid (S5.out.ext x6)
      clear x6 H5 B5 S5 k0 AT
      obtain ⟨ob, hob⟩ : ∃ ob, (decide (rank = 3) && o2.isSome) = ob := ⟨_, rfl⟩
      have HOB := hid hob
      clear hob
      go_upto_region 10 with (fail)
      go_cut [109] (fun v wx => v = .bool ob ∧ wx = w6)
      case first =>
        by_cases q0 : rank = 3
        · have HQ := hid q0
          have q1 : (rank == 3) = true := by simpa using q0
          clear q0
          rcases IX2.out with ⟨ho2, _⟩ | ⟨i2, hi2, ho2, _⟩
          · have hv : v2 = -1 := by rw [← HV2.out, ho2]; rfl
            have HO3 := hid ho2
            clear HV2 ho2
            subst hv
            go_wp2_with fail
            go_meet
            exact ⟨by rw [← HOB.out, HO3.out]; simp, rfl⟩
          · have hv : v2 = (i2 : Int) := by rw [← HV2.out, ho2]; rfl
            have HO3 := hid ho2
            clear HV2 ho2
            subst hv
            have i3 : (0 : Int) ≤ (i2 : Int) := by omega
            go_wp2_with fail
            go_meet
            exact ⟨by rw [← HOB.out, HQ.out, HO3.out]; simp, rfl⟩
        · have HQ := hid q0
          have q1 : (rank == 3) = false := by simpa using q0
          clear q0
          go_wp2_with fail
          go_meet
          exact ⟨by rw [← HOB.out]; simp [HQ.out], rfl⟩
      case rest =>
        obtain ⟨rfl, rfl⟩ := hcut
        go_upto_if 109 with (fail)
        go_cut [] (fun wx => CutP wc g gs most tm (lowT T (lower s.nm) rank) #[.string (str s.nm), .int .i64 s.ty, .int .i64 s.cl, .int .i64 s.ttl, .slice A' sn c'] A wx)
        case first =>
          cases ob
          · go_wp2_with fail
            go_meet
            have e : lowT T (lower s.nm) rank = T := by
              unfold lowT
              split
              · rename_i hr
                have h1 := HOB.out
                rw [hr] at h1
                rcases IX2.out with ⟨h2, _⟩ | ⟨i2, _, h2, _⟩
                · rw [HO2.out, h2]; rfl
                · rw [h2] at h1; simp at h1
              · rfl
            rw [e]
            exact ⟨A, c, H6.out, B6.out, Shy.refl _, fun k hk => .inl hk⟩
          · have h1 := HOB.out
            simp only [Bool.and_eq_true, decide_eq_true_eq] at h1
            obtain ⟨i2, hi2, ho2⟩ : ∃ i2, i2 < T.length ∧ o2 = some i2 := by
              rcases IX2.out with ⟨h2, _⟩ | ⟨i2, h3, h2, _⟩
              · rw [h2] at h1; simp at h1
              · exact ⟨i2, h3, h2⟩
            have e : lowT T (lower s.nm) rank = T.take i2 ++ T.drop (i2 + 1) := by
              unfold lowT
              rw [if_pos h1.1, HO2.out, ho2]
              rfl
            have e := hid e
            have hv : v2 = (i2 : Int) := by rw [← HV2.out, ho2]; rfl
            clear HV2 ho2 h1
            subst hv
            go_wp2_with fail
            refine (rout H6.out hi2 (by have := NUM.out.2.2.2.2; omega)).mono ?_
            rintro e9 w7 ⟨A6, c6, rfl, H7, S7, L7⟩
            go_wp2_with fail
            go_meet
            rw [e.out]
            exact ⟨A6, c6, H7, B6.out.shy S7 (fun e => by have h1 := HM0.out.b.lt; have h2 := HGS.out; omega), S7, fun k hk => .inr (L7 k hk)⟩
        case rest =>
          obtain ⟨A6, c6, H7, B7, S7, L7⟩ := hcut
          obtain ⟨w7, hw7⟩ : ∃ w7, w7 = wc := ⟨_, rfl⟩
          subst hw7
          have B7 := hid B7
          have H7 := hid H7
          have S7 := hid (S6.out.trans S7 (fun k _ e => e))
          have L7 := hid L7
          have hgw : gs < w7.heap.size := B7.out.lt
          have hgg : g ≠ gs := by have h1 := hg9.out; have h2 := HGS.out; omega
          have k4 : w7.cell? ⟨gs, 4, none⟩ = some (.slice A' sn c') := B7.out.cell 4
          obtain ⟨i0, hi0, hz0, hz1, hz2⟩ := info_parts info_t
          obtain ⟨wq, hwq⟩ : ∃ wq, w7.alloc (.cells #[] 9) = wq := ⟨_, rfl⟩
          obtain ⟨gq, hgq⟩ : ∃ gq, w7.heap.size = gq := ⟨_, rfl⟩
          have xq : Ext w7 wq := by rw [← hwq]; exact ext_alloc _ _
          have dst : OwnG isT wq w7.heap.size 9 1 (some ⟨gq, 0, none⟩) 0 0 [] := by
            have := OwnG.new (ok := isT) (base := w7.heap.size) (size := 1) (e := 9) w7 [] 0 0 (Nat.le_refl _) (by simp) (Nat.le_refl _) (by simp [maxLen]) (by simp)
            rw [← hwq, ← hgq]
            simpa using this
          have src : RdG wq 1 A' sn c' (tvs s.data) := (rdG_off HDAT.out S7.out (fun _ => HAG.out)).ext xq
          have q4 : wq.cell? ⟨gs, 4, none⟩ = some (.slice A' sn c') := (B7.out.ext xq).cell 4
          have DST := hid dst
          have SRC := hid src
          have XQ := hid xq
          have hsn9 := NUM.out.1.2
          have HGQ := hid hgq
          clear dst src xq
          go_upto_region 13 with (at_builtin; go_must (refine wpList_append_g (ok := isT) rfl (.tmp 113) (.tmp 115) 28 rfl w7.heap.size 9 i0 (.string ⟨#[]⟩) 1 16 Try.underlying28 hi0 hz0 hz1 hz2 rfl (by decide) (by simp [Value.cells]; exact ⟨⟨#[]⟩, rfl⟩) (fun _ h => h.one) rfl DST.out rfl SRC.out (isT_tvs s.data) (by omega) (by unfold maxLen; omega) XQ.out.size ?_; intro A8 c8 w8 o8 g8 n8; rw [show 0 + sn = sn from by omega, List.nil_append] at o8; rw [show 0 + sn = sn from by omega]; have O8 := hid o8; have X8 : Hid (Ext w7 w8) := hid (below_of_grown XQ.out XQ.out.size g8 (fun q hq => (DST.out.lt q hq).1)); have bf := (B7.out.ext X8.out).frozen; have b4 := (B7.out.ext X8.out).cell 4; simp at b4; clear o8 g8 n8 k4 q4 hwq hgq))
          clear bf b4
          have s9 := set_shy gs 4 (.slice A8 sn c8) w8
          have b9 : Blk (w8.setCell ⟨gs, 4, none⟩ (.slice A8 sn c8)) gs 30 #[.string (str s.nm), .int .i64 s.ty, .int .i64 s.cl, .int .i64 s.ttl, .slice A8 sn c8] := by
            have := (B7.out.ext X8.out).set_ 4 (.slice A8 sn c8)
            simpa using this
          have hlt8 : ∀ k, blk A8 = some k → ¬ k = gs := fun k hk e => by have h1 := (O8.out.lt k hk).1; omega
          have o9 := s9.ownG O8.out hlt8
          have h9 : RefC (w8.setCell ⟨gs, 4, none⟩ (.slice A8 sn c8)) g most tm A6 c6 (lowT T (lower s.nm) rank) := (H7.out.ext X8.out).off s9 hgg (fun h0 k hk e => by
              rcases L7.out k hk with h1 | h1
              · obtain ⟨b1, h2, h3⟩ := HM0.out.r.lt (by have h4 := lowT_len T (lower s.nm) rank; omega)
                rw [h1] at h2
                have h5 := Option.some.inj h2
                have h6 := HGS.out
                omega
              · have h2 := B6.out.lt
                omega) (fun t ht h0 k hk e => by
              obtain ⟨b1, h2, h3⟩ := (HM0.out.d t (lowT_sub T (lower s.nm) rank t ht)).lt h0
              rw [hk] at h2
              have h5 := Option.some.inj h2
              have h6 := HGS.out
              omega)
          have S9 := hid ((S7.out.ext X8.out).trans s9 (fun k hk e => by have h6 := HGS.out; omega))
          obtain ⟨w9, hw9⟩ : ∃ w9, w8.setCell ⟨gs, 4, none⟩ (.slice A8 sn c8) = w9 := ⟨_, rfl⟩
          rw [hw9] at b9 o9 h9 S9 ⊢
          have B9 := hid b9
          have O9 := hid o9
          have H9 := hid h9
          have Z9 := hid (Nat.le_trans X8.out.size (by rw [← hw9]; simp) : w7.heap.size ≤ w9.heap.size)
          clear b9 o9 h9 s9 hw9 hlt8 B7 H7 O8 DST SRC XQ
          obtain ⟨te, hte⟩ : ∃ te, te = tm + s.ttl := ⟨_, rfl⟩
          have HTE := hid hte
          have v1 : wrap64 (tm + s.ttl) = te := by rw [hte]; exact IntWalk.wrap64_in _ (by have := NUM.out; omega)
          have v2 : IntKind.i64.wrap (tm + s.ttl) = te := by rw [hte]; exact IntWalk.i64_in _ (by have := NUM.out; omega)
          clear hte
          have KEEP : Hid (∀ W, Ext w9 W → W.cell? ⟨g, 2, none⟩ = some (.int .i64 tm) ∧ W.cell? ⟨gs, 0, none⟩ = some (.string (str s.nm)) ∧ W.cell? ⟨gs, 1, none⟩ = some (.int .i64 s.ty) ∧ W.cell? ⟨gs, 2, none⟩ = some (.int .i64 s.cl) ∧ W.cell? ⟨gs, 3, none⟩ = some (.int .i64 s.ttl) ∧ W.cell? ⟨gs, 4, none⟩ = some (.slice A8 sn c8)) := hid (fun W y => by
            have b := B9.out.ext y
            exact ⟨(H9.out.b.ext y).cell 2, b.cell 0, b.cell 1, b.cell 2, b.cell 3, b.cell 4⟩)
          have RP := fun W (x : Ext w9 W) => rput (H9.out.ext x) (r := ⟨⟨lower s.nm, s.ty, .known s rank te⟩, A8, c8⟩) (O9.out.rd.ext x |> fun h => by show RdG W 1 A8 s.data.length c8 (tvs s.data); rw [HSN.out]; exact h) (fun _ e => by have h1 := (O9.out.lt g e).1; have h2 := hg9.out; have h3 := HGS.out; omega) (lower_lower _) HLOW.out (by have := lowT_len T (lower s.nm) rank; have := NUM.out.2.2.2.2; omega) NUM.out.2.2.2.1
          simp only [cellsT_known, HSN.out] at RP
          have RP := hid RP
          refine wp_region_noPanic ?_
          refine region_E (S := fun W => W.cell? ⟨g, 2, none⟩ = some (.int .i64 tm) ∧ W.cell? ⟨gs, 0, none⟩ = some (.string (str s.nm)) ∧ W.cell? ⟨gs, 1, none⟩ = some (.int .i64 s.ty) ∧ W.cell? ⟨gs, 2, none⟩ = some (.int .i64 s.cl) ∧ W.cell? ⟨gs, 3, none⟩ = some (.int .i64 s.ttl) ∧ W.cell? ⟨gs, 4, none⟩ = some (.slice A8 sn c8)) 16 (by kernel_rfl) (by kernel_rfl) (by kernel_rfl) ?_
          refine EG_take 0 (v := ?v259) (by simp only [lga, lgb, lgc]; rfl) (by kernel_rfl) (by kernel_rfl) (by decide) (fun _ _ _ h => h) (Or.inl ⟨by rfl, ?hy259⟩) (KEEP.out _ (ext_drew _)) ?rest259
          case hy259 => intro W hSW; (try dsimp only at hSW); obtain ⟨e2, f0, f1, f2, f3, f4⟩ := hSW; go_simp <;> with_reducible rfl
          try simp only [Act.put, lsa, lsb, lsc]
          refine EG_take 1 (v := ?v260) (by simp only [lga, lgb, lgc]; rfl) (by kernel_rfl) (by kernel_rfl) (by decide) (fun _ _ _ h => h) (Or.inl ⟨by rfl, ?hy260⟩) (KEEP.out _ (ext_drew _)) ?rest260
          case hy260 => intro W hSW; (try dsimp only at hSW); obtain ⟨e2, f0, f1, f2, f3, f4⟩ := hSW; go_simp <;> with_reducible rfl
          try simp only [Act.put, lsa, lsb, lsc]
          refine EG_take 2 (v := ?v261) (by simp only [lga, lgb, lgc]; rfl) (by kernel_rfl) (by kernel_rfl) (by decide) (fun _ _ _ h => h) (Or.inl ⟨by rfl, ?hy261⟩) (KEEP.out _ (ext_drew _)) ?rest261
          case hy261 => intro W hSW; (try dsimp only at hSW); obtain ⟨e2, f0, f1, f2, f3, f4⟩ := hSW; go_simp <;> with_reducible rfl
          try simp only [Act.put, lsa, lsb, lsc]
          refine EG_take 4 (v := ?v262) (by simp only [lga, lgb, lgc]; rfl) (by kernel_rfl) (by kernel_rfl) (by decide) (fun _ _ _ h => h) (Or.inl ⟨by rfl, ?hy262⟩) (KEEP.out _ (ext_drew _)) ?rest262
          case hy262 => intro W hSW; (try dsimp only at hSW); obtain ⟨e2, f0, f1, f2, f3, f4⟩ := hSW; go_simp <;> with_reducible rfl
          try simp only [Act.put, lsa, lsb, lsc]
          refine EG_take 5 (v := ?v263) (by simp only [lga, lgb, lgc]; rfl) (by kernel_rfl) (by kernel_rfl) (by decide) (fun _ _ _ h => h) (Or.inl ⟨by rfl, ?hy263⟩) (KEEP.out _ (ext_drew _)) ?rest263
          case hy263 => intro W hSW; (try dsimp only at hSW); obtain ⟨e2, f0, f1, f2, f3, f4⟩ := hSW; go_simp <;> with_reducible rfl
          try simp only [Act.put, lsa, lsb, lsc]
          refine EG_take 6 (v := ?v264) (by simp only [lga, lgb, lgc]; rfl) (by kernel_rfl) (by kernel_rfl) (by decide) (fun _ _ _ h => h) (Or.inl ⟨by rfl, ?hy264⟩) (KEEP.out _ (ext_drew _)) ?rest264
          case hy264 => intro W hSW; (try dsimp only at hSW); obtain ⟨e2, f0, f1, f2, f3, f4⟩ := hSW; go_simp <;> with_reducible rfl
          try simp only [Act.put, lsa, lsb, lsc]
          refine EG_take 7 (v := ?v265) (by simp only [lga, lgb, lgc]; rfl) (by kernel_rfl) (by kernel_rfl) (by decide) (fun _ _ _ h => h) (Or.inl ⟨by rfl, ?hy265⟩) (KEEP.out _ (ext_drew _)) ?rest265
          case hy265 => intro W hSW; (try dsimp only at hSW); obtain ⟨e2, f0, f1, f2, f3, f4⟩ := hSW; go_simp <;> with_reducible rfl
          try simp only [Act.put, lsa, lsb, lsc]
          refine EG_take 8 (v := ?v266) (by simp only [lga, lgb, lgc]; rfl) (by kernel_rfl) (by kernel_rfl) (by decide) (fun _ _ _ h => h) (Or.inl ⟨by rfl, ?hy266⟩) (KEEP.out _ (ext_drew _)) ?rest266
          case hy266 => intro W hSW; (try dsimp only at hSW); obtain ⟨e2, f0, f1, f2, f3, f4⟩ := hSW; go_simp <;> with_reducible rfl
          try simp only [Act.put, lsa, lsb, lsc]
          refine EG_take 9 (v := ?v267) (by simp only [lga, lgb, lgc]; rfl) (by kernel_rfl) (by kernel_rfl) (by decide) (fun _ _ _ h => h) (Or.inl ⟨by rfl, ?hy267⟩) (KEEP.out _ (ext_drew _)) ?rest267
          case hy267 => intro W hSW; (try dsimp only at hSW); obtain ⟨e2, f0, f1, f2, f3, f4⟩ := hSW; go_simp <;> with_reducible rfl
          try simp only [Act.put, lsa, lsb, lsc]
          refine EG_take 10 (v := ?v268) (by simp only [lga, lgb, lgc]; rfl) (by kernel_rfl) (by kernel_rfl) (by decide) (fun _ _ _ h => h) (Or.inl ⟨by rfl, ?hy268⟩) (KEEP.out _ (ext_drew _)) ?rest268
          case hy268 => intro W hSW; (try dsimp only at hSW); obtain ⟨e2, f0, f1, f2, f3, f4⟩ := hSW; go_simp <;> with_reducible rfl
          try simp only [Act.put, lsa, lsb, lsc]
          refine EG_take 11 (v := ?v269) (by simp only [lga, lgb, lgc]; rfl) (by kernel_rfl) (by kernel_rfl) (by decide) (fun _ _ _ h => h) (Or.inl ⟨by rfl, ?hy269⟩) (KEEP.out _ (ext_drew _)) ?rest269
          case hy269 => intro W hSW; (try dsimp only at hSW); obtain ⟨e2, f0, f1, f2, f3, f4⟩ := hSW; go_simp <;> with_reducible rfl
          try simp only [Act.put, lsa, lsb, lsc]
          refine EG_take 12 (v := ?v270) (by simp only [lga, lgb, lgc]; rfl) (by kernel_rfl) (by kernel_rfl) (by decide) (fun _ _ _ h => h) (Or.inl ⟨by rfl, ?hy270⟩) (KEEP.out _ (ext_drew _)) ?rest270
          case hy270 => intro W hSW; (try dsimp only at hSW); obtain ⟨e2, f0, f1, f2, f3, f4⟩ := hSW; go_simp <;> with_reducible rfl
          try simp only [Act.put, lsa, lsb, lsc]
          refine EG_take 13 (v := ?v271) (by simp only [lga, lgb, lgc]; rfl) (by kernel_rfl) (by kernel_rfl) (by decide) (fun _ _ _ h => h) (Or.inl ⟨by rfl, ?hy271⟩) (KEEP.out _ (ext_drew _)) ?rest271
          case hy271 => intro W hSW; (try dsimp only at hSW); obtain ⟨e2, f0, f1, f2, f3, f4⟩ := hSW; go_simp <;> with_reducible rfl
          try simp only [Act.put, lsa, lsb, lsc]
          refine EG_take 14 (v := ?v272) (by simp only [lga, lgb, lgc]; rfl) (by kernel_rfl) (by kernel_rfl) (by decide) (fun _ _ _ h => h) (Or.inl ⟨by rfl, ?hy272⟩) (KEEP.out _ (ext_drew _)) ?rest272
          case hy272 => intro W hSW; (try dsimp only at hSW); obtain ⟨e2, f0, f1, f2, f3, f4⟩ := hSW; go_simp <;> with_reducible rfl
          try simp only [Act.put, lsa, lsb, lsc]
          refine EG_one 3 (by kernel_rfl) (by simp only [lga, lgb, lgc]; rfl) (by decide) ?_
          intro K hK0
          have hK := hid hK0
          clear hK0
          go_simp
          refine (ref_lower s.nm _ HNM.out).mono ?_
          rintro e w10 ⟨rfl, x10⟩
          have X10 := hid (ext_trans (ext_drew w9) x10)
          clear x10
          go_simp
          refine hK.out _ _ (KEEP.out _ X10.out) ?_
          clear hK K
          try simp only [Act.put, lsa, lsb, lsc]
          refine EG_take 15 (v := ?v273) (by simp only [lga, lgb, lgc]; rfl) (by kernel_rfl) (by kernel_rfl) (by decide) (fun _ _ _ h => h) (Or.inl ⟨by rfl, ?hy273⟩) (KEEP.out _ X10.out) ?rest273
          case hy273 => intro W hSW; (try dsimp only at hSW); obtain ⟨e2, f0, f1, f2, f3, f4⟩ := hSW; go_simp <;> with_reducible rfl
          try simp only [Act.put, lsa, lsb, lsc]
          refine EG_end (by kernel_rfl) (by simp only [lga, lgb, lgc]; rfl) ?_
          intro K hK0
          have hK := hid hK0
          clear hK0
          go_simp
          refine (RP.out _ X10.out).mono ?_
          rintro e w11 ⟨A11, c11, rfl, H11, S11, L11⟩
          go_simp
          refine hK.out _ _ ?_
          clear hK K
          refine NoPanic.normal ?_
          go_wp2_with fail
          go_ret2
          have hp := HGO.out ⟨⟨lower s.nm, s.ty, .known s rank te⟩, A8, c8⟩ (by unfold setE; rw [HTE.out])
          rw [hp]
          refine ⟨rfl, ⟨A11, c11, _, H11, rfl, .inl HVV.out.1, fun _ k hk => .inr ?_, fun t ht h0 k hk => ?_⟩, (S9.out.ext X10.out).trans S11 (fun k _ e => e)⟩
          · have h1 := L11 k hk
            have h2 := (S9.out.ext X10.out).size
            omega
          · rcases putT_sub _ _ _ t ht with h | rfl
            · exact .inl (HVV.out.2.2 t (lowT_sub _ _ _ t h) h0 k hk)
            · have h1 := (O9.out.lt k hk).1
              have h2 := HGS.out
              exact .inr (by omega)
end
end Go.Proofs.Ytcddfenhkljpeaa

import Derived.Test.YtcddfenhkljpeaaCsG
import Derived.Deep.DeepCutAuto
import Derived.Deep.CutBlock
/- Layer 23: CacheScript, walked. (Printed by gen_chcbq.py.) -/
namespace Go.Proofs.Ytcddfenhkljpeaa
open Go.BK Go.BK.CH Go.BK.NM Go.RowKit Go.Maps
set_option linter.unusedVariables false
set_option linter.unusedSimpArgs false
theorem pass7 {G : Prop} {P : Option Addr → Nat → Option Addr → Nat → Nat → Nat → World → Prop} (H : Option Addr → Nat → Option Addr → Nat → Nat → Nat → World → Prop) (key : ∀ a b c d e f w, H a b c d e f w → P a b c d e f w) (main : (∀ a b c d e f w, H a b c d e f w → P a b c d e f w) → G) : G := main key
def ScRel (w : World) (base gc gw : Nat) (most : Int) (M : List Am) (iv : Value) (wr : World) : Prop :=
  ∃ (k : Nat) (s : StC), k ≤ M.length ∧ iv = .int .i64 k ∧ DuoB w [] base wr gc gw most s s
def ScMid (w : World) (base gc gw gx : Nat) (most : Int) (wx : World) : Prop := ∃ s : StC, DuoB w [gx] base wx gc gw most s s
set_option maxHeartbeats 16000000 in
set_option maxRecDepth 100000 in
theorem script_walk {A : Option Addr} {c : Nat} {M : List Am} (most : Int) (nm : ByteArray) (kind : Int) (w : World) (h1 : -9223372036854775808 ≤ most ∧ most ≤ 9223372036854775807) (hM : ActR w A c M) (hs : nm.size ≤ maxLen) (h3 : -9223372036854775808 ≤ kind ∧ kind ≤ 9223372036854775807) :
    Calls Try.prog 7 #[.int .i64 most, .slice A M.length c, .string nm, .int .i64 kind] w fun e w' => e = .returned (.bool true) ∧ Ext w w' := by
  obtain ⟨nl, hnl⟩ : ∃ nl, str nl = nm := ⟨nm.data.toList, by cases nm; simp [str]⟩
  have hsz : nm.size = nl.length := by rw [← hnl]; simp [str, ByteArray.size]
  obtain ⟨n, hn⟩ : ∃ n, M.length = n := ⟨_, rfl⟩
  have hn9 := hM.1.n_le
  obtain ⟨lg, hlg⟩ : ∃ lg, longL M = lg := ⟨_, rfl⟩
  have LI := long_in hM
  rw [hlg] at LI
  rw [hn] at hn9 LI ⊢
  have LI := hid LI
  have HM := hid hM
  have HN := hid hn
  have HLG := hid hlg
  have HNL := hid hnl
  have HSZ := hid hsz
  have HK := hid h3
  clear hM hn hlg hnl hsz h3
  go_enter Try.func7, Try.ntmps7
  go_wp2_with fail
  refine LI.out.mono ?_
  rintro e w0 ⟨rfl, x0⟩
  have X0 : Hid (Ext w w0) := hid x0
  clear x0 LI
  cases lg with
  | true =>
    go_wp2_with fail
    refine (awake_yes _).mono ?_
    rintro e w1 ⟨rfl, y1⟩
    go_wp2_with fail
    go_ret
    exact ⟨rfl, ext_trans X0.out y1⟩
  | false =>
    by_cases hl2 : 2000 < nm.size
    · have i1 : decide ((2000 : Int) < (nm.size : Int)) = true := by simp; omega
      clear hl2
      go_wp2_with fail
      refine (awake_yes _).mono ?_
      rintro e w1 ⟨rfl, y1⟩
      go_wp2_with fail
      go_ret
      exact ⟨rfl, ext_trans X0.out y1⟩
    have i1 : decide ((2000 : Int) < (nm.size : Int)) = false := by simp; omega
    have HL2 := hid (show nl.length ≤ 2000000 from by have := HSZ.out; omega)
    clear hl2
    by_cases hms : ¬ (1 ≤ most ∧ most ≤ 4096)
    · have CN := hid (new_bad most w0 (by omega))
      have RN := hid (rnew_bad most w0 (by omega))
      clear hms
      go_wp2_with fail
      refine CN.out.mono ?_
      rintro e _ ⟨rfl, rfl⟩
      go_wp2_with fail
      refine RN.out.mono ?_
      rintro e _ ⟨rfl, rfl⟩
      go_wp2_with fail
      refine (awake_yes _).mono ?_
      rintro e w1 ⟨rfl, y1⟩
      go_wp2_with fail
      go_ret
      exact ⟨rfl, ext_trans X0.out y1⟩
    have hms : 1 ≤ most ∧ most ≤ 4096 := Classical.not_not.1 hms
    have C0 := c_new most w0 hms
    simp only [pt] at C0
    have C0 := hid C0
    go_wp2_with fail
    clear i1
    refine C0.out.mono ?_
    rintro e w1 ⟨gc, rfl, q1, x1⟩
    have R0 := r_new most w1 hms
    obtain ⟨gw, hgw⟩ : ∃ gw, w1.heap.size = gw := ⟨_, rfl⟩
    rw [hgw] at R0
    simp only [pt] at R0
    have R0 := hid R0
    have Q1 := hid q1
    have X1 := hid x1
    have HGW := hid hgw
    clear q1 x1 C0 hgw
    go_wp2_with fail
    refine R0.out.mono ?_
    rintro e w2 ⟨rfl, r2, x2⟩
    obtain ⟨base, hbase⟩ : ∃ base, w0.heap.size = base := ⟨_, rfl⟩
    have D0 : Hid (DuoB w [] base w2 gc gw most ⟨0, []⟩ ⟨0, []⟩) := hid (by
      have hz1 := X0.out.size
      have hz2 := X1.out.size
      have hz3 := x2.size
      have hg := HGW.out
      refine ⟨⟨fun k => base ≤ k ∧ k < w1.heap.size, fun k => w1.heap.size ≤ k ∧ k < w2.heap.size, (Q1.out.mono (V := fun k => base ≤ k ∧ k < w1.heap.size) (fun k hk u => ⟨by rw [← hbase]; exact u, hk⟩)).ext x2, r2.mono (fun k hk u => ⟨by rw [hg]; exact u, hk⟩), Q1.out.1, fun k hk => ⟨hk.1, by have := hk.2; omega, by simp, fun h => by have := hk.2; have := h.1; omega⟩, fun k hk => ⟨by have := hk.1; omega, hk.2, by simp⟩⟩, ext_trans X0.out (ext_trans X1.out x2), by rw [← hbase]; exact hz1, by omega, by simp⟩)
    have SM := hid (small_of HLG.out)
    clear r2 x2 Q1 X1 R0 HGW hbase X0
    go_wp2_with fail
    go_loopw [13] (fun iv wr => ScRel w base gc gw most M iv wr) (fun iv _ => n - (intOf iv).toNat)
    case atStart => exact ⟨0, _, Nat.zero_le _, rfl, D0.out⟩
    case round =>
      obtain ⟨k, s, hk, rfl, d⟩ := hrel
      rw [HN.out] at hk
      by_cases hlt : k < n
      · have j1 : (k : Int) < (n : Int) := by omega
        have hkM : k < M.length := by rw [HN.out]; exact hlt
        obtain ⟨b, o, rfl, hb, hc⟩ := (HM.out.ext d.2.1).at_ (by rw [HN.out]; omega)
        obtain ⟨m, hmm, hme, ha⟩ := hc k hkM
        obtain ⟨wf, rt⟩ := HM.out.2 m hmm
        obtain ⟨sm1, sm2, sm3, sm4⟩ := SM.out.2 m hmm
        obtain ⟨xn, hxn⟩ : ∃ xn, str m.a.nm = xn := ⟨_, rfl⟩
        obtain ⟨xsn, hxsn⟩ : ∃ xsn, str m.a.s.nm = xsn := ⟨_, rfl⟩
        obtain ⟨xl, hxl⟩ : ∃ xl, m.a.s.data.length = xl := ⟨_, rfl⟩
        have c0 := ha 0 _ rfl
        have c1 := ha 1 _ rfl
        have c2 := ha 2 _ rfl
        have c3 := ha 3 _ rfl
        have c4 := ha 4 _ rfl
        have c5 := ha 5 _ rfl
        have c6 := ha 6 _ rfl
        have c7 := ha 7 _ rfl
        have c8 := ha 8 _ rfl
        have c9 := ha 9 _ rfl
        have c10 := ha 10 _ rfl
        rw [hxn] at c5
        rw [hxsn] at c6
        rw [hxl] at c10
        simp only [Nat.add_zero] at c0
        have bx := Blk.new wr 52 #[.int .i64 m.a.kind, .int .i64 m.a.now, .int .i64 m.a.rank, .int .i64 m.a.type, .int .i64 m.a.ttl, .string xn, .string xsn, .int .i64 m.a.s.ty, .int .i64 m.a.s.cl, .int .i64 m.a.s.ttl, .slice m.A xl m.d]
        obtain ⟨wp, hwp⟩ : ∃ wp, wr.alloc (.cells #[.int .i64 m.a.kind, .int .i64 m.a.now, .int .i64 m.a.rank, .int .i64 m.a.type, .int .i64 m.a.ttl, .string xn, .string xsn, .int .i64 m.a.s.ty, .int .i64 m.a.s.cl, .int .i64 m.a.s.ttl, .slice m.A xl m.d] 52) = wp := ⟨_, rfl⟩
        obtain ⟨gx, hgx⟩ : ∃ gx, wr.heap.size = gx := ⟨_, rfl⟩
        have DP := hid (d.alloc _ hwp hgx)
        rw [hwp, hgx] at bx
        have BX := hid bx
        have i2 : k < n := hlt
        have hk0 : (0 : Int) ≤ (k : Int) := by omega
        have hcap := HM.out.1.cap.1
        rw [HN.out] at hcap
        have WF := hid wf
        have RT := hid rt
        have SMM := hid (And.intro sm1 (And.intro sm2 (And.intro sm3 sm4)))
        have HXN := hid hxn
        have HXS := hid hxsn
        have HXL := hid hxl
        have PK := pick_any m.a.kind 8 wp WF.out.1 (by decide)
        have HPR := pick_range m.a.kind 8 (by decide)
        obtain ⟨pk, hpk⟩ : ∃ pk, pick m.a.kind 8 = pk := ⟨_, rfl⟩
        rw [hpk] at PK HPR
        have PK := hid PK
        have HPR := hid HPR
        clear wf rt sm1 sm2 sm3 sm4 bx hxn hxsn hxl hpk hc ha hb d hmm hme hk
        go_upto_region 15 with (fail)
        clear c0 c1 c2 c3 c4 c5 c6 c7 c8 c9 c10 hwp hgx
        have k0 : wp.cell? ⟨gx, 0, none⟩ = some (.int .i64 m.a.kind) := BX.out.cell 0
        go_wp2_with fail
        clear k0
        refine PK.out.mono ?_
        rintro e _ ⟨rfl, rfl⟩
        go_upto_block 2 with (fail)
        go_cut [] (fun wx => ScMid w base gc gw gx most wx)
        case first =>
          by_cases p3 : pk = 3
          · have q3 : (pk == 3) = true := by simpa using p3
            clear p3
            as_aux_lemma =>
              have CN := b_cnone DP.out (n := m.a.nm) (kind := m.a.type) (ttl := m.a.ttl) (at_ := m.a.now) (show m.a.nm.length ≤ 2000000 from by have := SMM.out.1; omega)
              obtain ⟨NG, hNG⟩ : ∃ NG, noneG most s m.a.nm m.a.type m.a.ttl m.a.now = NG := ⟨_, rfl⟩
              simp only [hNG, pt, HXN.out] at CN
              have CN := hid CN
              have HNG := hid hNG
              clear hNG
              have k1 : wp.cell? ⟨gx, 1, none⟩ = some (.int .i64 m.a.now) := BX.out.cell 1
              have k3 : wp.cell? ⟨gx, 3, none⟩ = some (.int .i64 m.a.type) := BX.out.cell 3
              have k4 : wp.cell? ⟨gx, 4, none⟩ = some (.int .i64 m.a.ttl) := BX.out.cell 4
              have k5 : wp.cell? ⟨gx, 5, none⟩ = some (.string xn) := BX.out.cell 5
              go_wp2_with fail
              clear k1 k3 k4 k5
              refine CN.out.mono ?_
              rintro e w3 ⟨rfl, d3, x3⟩
              have B3 := hid (blk_out BX.out x3 (by simp))
              have RN := b_rnone (t := s) (n := m.a.nm) (kind := m.a.type) (ttl := m.a.ttl) (at_ := m.a.now) (by rw [HNG.out]; exact d3) (show m.a.nm.length ≤ 2000000 from by have := SMM.out.1; omega)
              simp only [HNG.out, pt, HXN.out] at RN
              have RN := hid RN
              clear d3 x3 CN
              have k1 : w3.cell? ⟨gx, 1, none⟩ = some (.int .i64 m.a.now) := B3.out.cell 1
              have k3 : w3.cell? ⟨gx, 3, none⟩ = some (.int .i64 m.a.type) := B3.out.cell 3
              have k4 : w3.cell? ⟨gx, 4, none⟩ = some (.int .i64 m.a.ttl) := B3.out.cell 4
              have k5 : w3.cell? ⟨gx, 5, none⟩ = some (.string xn) := B3.out.cell 5
              go_wp2_with fail
              clear k1 k3 k4 k5
              refine RN.out.mono ?_
              rintro e w4 ⟨rfl, d4, x4⟩
              have D4 := hid d4
              clear d4 x4 RN
              go_wp2_with fail
              go_meet
              exact ⟨NG.1, D4.out⟩
          · have q3 : (pk == 3) = false := by simpa using p3
            clear p3
            by_cases pg : pk = 4 ∨ pk = 5 ∨ pk = 6
            · have HPG := hid pg
              clear pg
              go_upto_if 162 with (fail)
              go_cut [162] (fun v wx => v = .bool true ∧ wx = wp)
              case first =>
                rcases HPG.out with p4 | p5 | p6
                · have q4 : (pk == 4) = true := by simpa using p4
                  clear p4
                  go_wp2_with fail
                  go_meet
                  exact ⟨by rw [q4], rfl⟩
                · have q4 : (pk == 4) = false := by simp; omega
                  have q5 : (pk == 5) = true := by simpa using p5
                  clear p5
                  go_wp2_with fail
                  go_meet
                  exact ⟨rfl, rfl⟩
                · have q4 : (pk == 4) = false := by simp; omega
                  have q5 : (pk == 5) = false := by simp; omega
                  have q6 : (pk == 6) = true := by simpa using p6
                  clear p6
                  go_wp2_with fail
                  go_meet
                  exact ⟨rfl, rfl⟩
              case rest =>
                obtain ⟨rfl, rfl⟩ := hcut
                obtain ⟨wp, hwp⟩ : ∃ wp, wp = wc := ⟨_, rfl⟩
                subst hwp
                as_aux_lemma =>
                  have hlen := DP.out.1.len m.a.nm m.a.type m.a.rank m.a.now
                  have CG := fun (L : List Nat) (W : World) (d : DuoB w L base W gc gw most s s) => b_cget d (n := m.a.nm) (kind := m.a.type) (rank := m.a.rank) (at_ := m.a.now) (show m.a.nm.length ≤ 2000000 from by have := SMM.out.1; omega) WF.out.type
                  obtain ⟨G, hG⟩ : ∃ G, getG s m.a.nm m.a.type m.a.rank m.a.now = G := ⟨_, rfl⟩
                  simp only [hG, pt, HXN.out] at CG
                  have RG := fun (L : List Nat) (W : World) (d : DuoB w L base W gc gw most G.1 s) => b_rget (t := s) (n := m.a.nm) (kind := m.a.type) (rank := m.a.rank) (at_ := m.a.now) (by rw [hG]; exact d) (show m.a.nm.length ≤ 2000000 from by have := SMM.out.1; omega)
                  simp only [hG, pt, HXN.out] at RG
                  rw [hG] at hlen
                  obtain ⟨F, hF⟩ : ∃ F, G.2 = F := ⟨_, rfl⟩
                  rw [hF] at hlen
                  obtain ⟨fn, hfn⟩ : ∃ fn, str F.s.nm = fn := ⟨_, rfl⟩
                  obtain ⟨fln, hfln⟩ : ∃ fln, F.s.data.length = fln := ⟨_, rfl⟩
                  have HF : Hid (∀ A c, foundV F A c = .agg #[.int .i64 F.kind, .string fn, .int .i64 F.s.ty, .int .i64 F.s.cl, .int .i64 F.s.ttl, .slice A fln c, .int .i64 F.left]) := hid (fun A c => by unfold foundV; rw [hfn, hfln])
                  unfold BcG at CG
                  unfold BrG at RG
                  simp only [hF, hfln] at CG RG
                  have CG := hid CG
                  have RG := hid RG
                  have HFN := hid hfn
                  have HFL := hid hfln
                  have HLEN := hid hlen
                  clear hG hF hfn hfln hlen
                  have KEEP : Hid (∀ W, Blk W gx 52 #[.int .i64 m.a.kind, .int .i64 m.a.now, .int .i64 m.a.rank, .int .i64 m.a.type, .int .i64 m.a.ttl, .string xn, .string xsn, .int .i64 m.a.s.ty, .int .i64 m.a.s.cl, .int .i64 m.a.s.ttl, .slice m.A xl m.d] → W.cell? ⟨gx, 1, none⟩ = some (.int .i64 m.a.now) ∧ W.cell? ⟨gx, 2, none⟩ = some (.int .i64 m.a.rank) ∧ W.cell? ⟨gx, 3, none⟩ = some (.int .i64 m.a.type) ∧ W.cell? ⟨gx, 5, none⟩ = some (.string xn)) := hid (fun W h => ⟨h.cell 1, h.cell 2, h.cell 3, h.cell 5⟩)
                  go_upto_region 34 with (fail)
                  refine wp_region_noPanic ?_
                  refine region_E (S := fun W => W.cell? ⟨gx, 1, none⟩ = some (.int .i64 m.a.now) ∧ W.cell? ⟨gx, 2, none⟩ = some (.int .i64 m.a.rank) ∧ W.cell? ⟨gx, 3, none⟩ = some (.int .i64 m.a.type) ∧ W.cell? ⟨gx, 5, none⟩ = some (.string xn)) 23 (by kernel_rfl) (by kernel_rfl) (by kernel_rfl) ?_
                  refine EG_take 0 (v := ?v23) (by simp only [lga, lgb, lgc]; rfl) (by kernel_rfl) (by kernel_rfl) (by decide) (fun _ _ _ h => h) (Or.inl ⟨by rfl, ?hy23⟩) (KEEP.out _ (BX.out.ext (ext_drew _))) ?rest23
                  case hy23 => intro W hSW; (try dsimp only at hSW); obtain ⟨e0, e1, e2, e3⟩ := hSW; go_simp <;> with_reducible rfl
                  try simp only [Act.put, lsa, lsb, lsc]
                  refine EG_take 1 (v := ?v24) (by simp only [lga, lgb, lgc]; rfl) (by kernel_rfl) (by kernel_rfl) (by decide) (fun _ _ _ h => h) (Or.inl ⟨by rfl, ?hy24⟩) (KEEP.out _ (BX.out.ext (ext_drew _))) ?rest24
                  case hy24 => intro W hSW; (try dsimp only at hSW); obtain ⟨e0, e1, e2, e3⟩ := hSW; go_simp <;> with_reducible rfl
                  try simp only [Act.put, lsa, lsb, lsc]
                  refine EG_take 2 (v := ?v25) (by simp only [lga, lgb, lgc]; rfl) (by kernel_rfl) (by kernel_rfl) (by decide) (fun _ _ _ h => h) (Or.inl ⟨by rfl, ?hy25⟩) (KEEP.out _ (BX.out.ext (ext_drew _))) ?rest25
                  case hy25 => intro W hSW; (try dsimp only at hSW); obtain ⟨e0, e1, e2, e3⟩ := hSW; go_simp <;> with_reducible rfl
                  try simp only [Act.put, lsa, lsb, lsc]
                  refine EG_take 3 (v := ?v26) (by simp only [lga, lgb, lgc]; rfl) (by kernel_rfl) (by kernel_rfl) (by decide) (fun _ _ _ h => h) (Or.inl ⟨by rfl, ?hy26⟩) (KEEP.out _ (BX.out.ext (ext_drew _))) ?rest26
                  case hy26 => intro W hSW; (try dsimp only at hSW); obtain ⟨e0, e1, e2, e3⟩ := hSW; go_simp <;> with_reducible rfl
                  try simp only [Act.put, lsa, lsb, lsc]
                  refine EG_take 4 (v := ?v27) (by simp only [lga, lgb, lgc]; rfl) (by kernel_rfl) (by kernel_rfl) (by decide) (fun _ _ _ h => h) (Or.inl ⟨by rfl, ?hy27⟩) (KEEP.out _ (BX.out.ext (ext_drew _))) ?rest27
                  case hy27 => intro W hSW; (try dsimp only at hSW); obtain ⟨e0, e1, e2, e3⟩ := hSW; go_simp <;> with_reducible rfl
                  try simp only [Act.put, lsa, lsb, lsc]
                  refine EG_take 5 (v := ?v28) (by simp only [lga, lgb, lgc]; rfl) (by kernel_rfl) (by kernel_rfl) (by decide) (fun _ _ _ h => h) (Or.inl ⟨by rfl, ?hy28⟩) (KEEP.out _ (BX.out.ext (ext_drew _))) ?rest28
                  case hy28 => intro W hSW; (try dsimp only at hSW); obtain ⟨e0, e1, e2, e3⟩ := hSW; go_simp <;> with_reducible rfl
                  try simp only [Act.put, lsa, lsb, lsc]
                  refine EG_take 6 (v := ?v29) (by simp only [lga, lgb, lgc]; rfl) (by kernel_rfl) (by kernel_rfl) (by decide) (fun _ _ _ h => h) (Or.inl ⟨by rfl, ?hy29⟩) (KEEP.out _ (BX.out.ext (ext_drew _))) ?rest29
                  case hy29 => intro W hSW; (try dsimp only at hSW); obtain ⟨e0, e1, e2, e3⟩ := hSW; go_simp <;> with_reducible rfl
                  try simp only [Act.put, lsa, lsb, lsc]
                  refine EG_take 7 (v := ?v30) (by simp only [lga, lgb, lgc]; rfl) (by kernel_rfl) (by kernel_rfl) (by decide) (fun _ _ _ h => h) (Or.inl ⟨by rfl, ?hy30⟩) (KEEP.out _ (BX.out.ext (ext_drew _))) ?rest30
                  case hy30 => intro W hSW; (try dsimp only at hSW); obtain ⟨e0, e1, e2, e3⟩ := hSW; go_simp <;> with_reducible rfl
                  try simp only [Act.put, lsa, lsb, lsc]
                  refine EG_take 8 (v := ?v31) (by simp only [lga, lgb, lgc]; rfl) (by kernel_rfl) (by kernel_rfl) (by decide) (fun _ _ _ h => h) (Or.inl ⟨by rfl, ?hy31⟩) (KEEP.out _ (BX.out.ext (ext_drew _))) ?rest31
                  case hy31 => intro W hSW; (try dsimp only at hSW); obtain ⟨e0, e1, e2, e3⟩ := hSW; go_simp <;> with_reducible rfl
                  try simp only [Act.put, lsa, lsb, lsc]
                  refine EG_take 10 (v := ?v32) (by simp only [lga, lgb, lgc]; rfl) (by kernel_rfl) (by kernel_rfl) (by decide) (fun _ _ _ h => h) (Or.inl ⟨by rfl, ?hy32⟩) (KEEP.out _ (BX.out.ext (ext_drew _))) ?rest32
                  case hy32 => intro W hSW; (try dsimp only at hSW); obtain ⟨e0, e1, e2, e3⟩ := hSW; go_simp <;> with_reducible rfl
                  try simp only [Act.put, lsa, lsb, lsc]
                  refine EG_take 11 (v := ?v33) (by simp only [lga, lgb, lgc]; rfl) (by kernel_rfl) (by kernel_rfl) (by decide) (fun _ _ _ h => h) (Or.inl ⟨by rfl, ?hy33⟩) (KEEP.out _ (BX.out.ext (ext_drew _))) ?rest33
                  case hy33 => intro W hSW; (try dsimp only at hSW); obtain ⟨e0, e1, e2, e3⟩ := hSW; go_simp <;> with_reducible rfl
                  try simp only [Act.put, lsa, lsb, lsc]
                  refine EG_take 12 (v := ?v34) (by simp only [lga, lgb, lgc]; rfl) (by kernel_rfl) (by kernel_rfl) (by decide) (fun _ _ _ h => h) (Or.inl ⟨by rfl, ?hy34⟩) (KEEP.out _ (BX.out.ext (ext_drew _))) ?rest34
                  case hy34 => intro W hSW; (try dsimp only at hSW); obtain ⟨e0, e1, e2, e3⟩ := hSW; go_simp <;> with_reducible rfl
                  try simp only [Act.put, lsa, lsb, lsc]
                  refine EG_take 13 (v := ?v35) (by simp only [lga, lgb, lgc]; rfl) (by kernel_rfl) (by kernel_rfl) (by decide) (fun _ _ _ h => h) (Or.inl ⟨by rfl, ?hy35⟩) (KEEP.out _ (BX.out.ext (ext_drew _))) ?rest35
                  case hy35 => intro W hSW; (try dsimp only at hSW); obtain ⟨e0, e1, e2, e3⟩ := hSW; go_simp <;> with_reducible rfl
                  try simp only [Act.put, lsa, lsb, lsc]
                  refine EG_take 14 (v := ?v36) (by simp only [lga, lgb, lgc]; rfl) (by kernel_rfl) (by kernel_rfl) (by decide) (fun _ _ _ h => h) (Or.inl ⟨by rfl, ?hy36⟩) (KEEP.out _ (BX.out.ext (ext_drew _))) ?rest36
                  case hy36 => intro W hSW; (try dsimp only at hSW); obtain ⟨e0, e1, e2, e3⟩ := hSW; go_simp <;> with_reducible rfl
                  try simp only [Act.put, lsa, lsb, lsc]
                  refine EG_take 15 (v := ?v37) (by simp only [lga, lgb, lgc]; rfl) (by kernel_rfl) (by kernel_rfl) (by decide) (fun _ _ _ h => h) (Or.inl ⟨by rfl, ?hy37⟩) (KEEP.out _ (BX.out.ext (ext_drew _))) ?rest37
                  case hy37 => intro W hSW; (try dsimp only at hSW); obtain ⟨e0, e1, e2, e3⟩ := hSW; go_simp <;> with_reducible rfl
                  try simp only [Act.put, lsa, lsb, lsc]
                  refine EG_take 16 (v := ?v38) (by simp only [lga, lgb, lgc]; rfl) (by kernel_rfl) (by kernel_rfl) (by decide) (fun _ _ _ h => h) (Or.inl ⟨by rfl, ?hy38⟩) (KEEP.out _ (BX.out.ext (ext_drew _))) ?rest38
                  case hy38 => intro W hSW; (try dsimp only at hSW); obtain ⟨e0, e1, e2, e3⟩ := hSW; go_simp <;> with_reducible rfl
                  try simp only [Act.put, lsa, lsb, lsc]
                  refine EG_take 17 (v := ?v39) (by simp only [lga, lgb, lgc]; rfl) (by kernel_rfl) (by kernel_rfl) (by decide) (fun _ _ _ h => h) (Or.inl ⟨by rfl, ?hy39⟩) (KEEP.out _ (BX.out.ext (ext_drew _))) ?rest39
                  case hy39 => intro W hSW; (try dsimp only at hSW); obtain ⟨e0, e1, e2, e3⟩ := hSW; go_simp <;> with_reducible rfl
                  try simp only [Act.put, lsa, lsb, lsc]
                  refine EG_take 18 (v := ?v40) (by simp only [lga, lgb, lgc]; rfl) (by kernel_rfl) (by kernel_rfl) (by decide) (fun _ _ _ h => h) (Or.inl ⟨by rfl, ?hy40⟩) (KEEP.out _ (BX.out.ext (ext_drew _))) ?rest40
                  case hy40 => intro W hSW; (try dsimp only at hSW); obtain ⟨e0, e1, e2, e3⟩ := hSW; go_simp <;> with_reducible rfl
                  try simp only [Act.put, lsa, lsb, lsc]
                  have BXD := BX.out.ext (ext_drew wp)
                  have DD0 := DP.out.ext (ext_drew wp)
                  obtain ⟨wd, hwd⟩ : ∃ wd, wp.drew = wd := ⟨_, rfl⟩
                  rw [hwd] at BXD DD0 ⊢
                  have BXD := hid BXD
                  have DD0 := hid DD0
                  clear hwd
                  apply pass7 (fun A9 c9 A10 c10 gA gB W => DuoB w ((blk A9).toList ++ [gA, gB, gx]) base W gc gw most G.1 G.1 ∧ Blk W gx 52 #[.int .i64 m.a.kind, .int .i64 m.a.now, .int .i64 m.a.rank, .int .i64 m.a.type, .int .i64 m.a.ttl, .string xn, .string xsn, .int .i64 m.a.s.ty, .int .i64 m.a.s.cl, .int .i64 m.a.s.ttl, .slice m.A xl m.d] ∧ OwnG isT W base 9 1 A9 fln c9 (tvs F.s.data) ∧ OwnG isT W base 9 1 A10 fln c10 (tvs F.s.data) ∧ Blk W gA 37 #[.int .i64 0, .string ⟨#[]⟩, .int .i64 0, .int .i64 0, .int .i64 0, .slice none 0 0, .int .i64 0] ∧ Blk W gB 37 #[.int .i64 0, .string ⟨#[]⟩, .int .i64 0, .int .i64 0, .int .i64 0, .slice none 0 0, .int .i64 0] ∧ gA ≠ gB ∧ base ≤ gA ∧ base ≤ gB)
                  case main =>
                    intro key0
                    refine EG_three 9 20 21 (by kernel_rfl) (by simp only [lga, lgb, lgc]; rfl) (by simp only [lga, lgb, lgc]; rfl) (by simp only [lga, lgb, lgc]; rfl) (by decide) (by decide) (by decide) ?t1_9 ?t1_20 ?t1_21
                    case t1_9 =>
                      intro K hK0
                      have hK := hid hK0
                      clear hK0
                      go_simp
                      refine (CG.out _ _ DD0.out).mono ?_
                      rintro e w2 ⟨A9, c9, rfl, on2, dn2, xn2⟩
                      rw [HF.out]
                      have D2 := hid dn2
                      have BX2 := hid (blk_out BXD.out xn2 (by simp))
                      have O2 := hid on2
                      clear on2 dn2 xn2
                      go_simp
                      refine hK.out _ _ (KEEP.out _ BX2.out) ?_
                      clear hK K
                      try simp only [Act.put, lsa, lsb, lsc]
                      refine EG_three 19 20 21 (by kernel_rfl) (by simp only [lga, lgb, lgc]; rfl) (by simp only [lga, lgb, lgc]; rfl) (by simp only [lga, lgb, lgc]; rfl) (by decide) (by decide) (by decide) ?t3_19 ?t3_20 ?t3_21
                      case t3_19 =>
                        intro K hK0
                        have hK := hid hK0
                        clear hK0
                        go_simp
                        refine (RG.out _ _ D2.out).mono ?_
                        rintro e w4 ⟨A10, c10, rfl, on4, dn4, xn4⟩
                        rw [HF.out]
                        have D4 := hid dn4
                        have BX4 := hid (blk_out BX2.out xn4 (by simp))
                        have R4 := hid on4
                        have O4 := hid (xn4.ownG O2.out (fun k hk u => u.2 (by simp [hk])))
                        clear on4 dn4 xn4
                        go_simp
                        refine hK.out _ _ (KEEP.out _ BX4.out) ?_
                        clear hK K
                        try simp only [Act.put, lsa, lsb, lsc]
                        refine EG_two 20 21 (by kernel_rfl) (by simp only [lga, lgb, lgc]; rfl) (by simp only [lga, lgb, lgc]; rfl) (by decide) (by decide) ?t5_20 ?t5_21
                        case t5_20 =>
                          intro K hK0
                          have hK := hid hK0
                          clear hK0
                          go_simp
                          have z6 := ext_alloc w4 (.cells #[.int .i64 0, .string ⟨#[]⟩, .int .i64 0, .int .i64 0, .int .i64 0, .slice none 0 0, .int .i64 0] 37)
                          have bn6 := Blk.new w4 37 #[.int .i64 0, .string ⟨#[]⟩, .int .i64 0, .int .i64 0, .int .i64 0, .slice none 0 0, .int .i64 0]
                          obtain ⟨w6, hw6⟩ : ∃ x, w4.alloc (.cells #[.int .i64 0, .string ⟨#[]⟩, .int .i64 0, .int .i64 0, .int .i64 0, .slice none 0 0, .int .i64 0] 37) = x := ⟨_, rfl⟩
                          obtain ⟨gA, hg6⟩ : ∃ x, w4.heap.size = x := ⟨_, rfl⟩
                          have D6 := hid (D4.out.alloc _ hw6 hg6)
                          rw [hw6] at z6 bn6 ⊢
                          rw [hg6] at bn6 ⊢
                          have HBA := hid (show base ≤ gA from by have := D4.out.2.2.2.1; omega)
                          have BX6 := hid (BX4.out.ext z6)
                          have O6 := hid (O4.out.ext z6)
                          have R6 := hid (R4.out.ext z6)
                          have BA6 := hid bn6
                          clear hw6 hg6 z6 bn6
                          refine hK.out _ _ (KEEP.out _ BX6.out) ?_
                          clear hK K
                          try simp only [Act.put, lsa, lsb, lsc]
                          refine EG_one 21 (by kernel_rfl) (by simp only [lga, lgb, lgc]; rfl) (by decide) ?t7_21
                          case t7_21 =>
                            intro K hK0
                            have hK := hid hK0
                            clear hK0
                            go_simp
                            have z8 := ext_alloc w6 (.cells #[.int .i64 0, .string ⟨#[]⟩, .int .i64 0, .int .i64 0, .int .i64 0, .slice none 0 0, .int .i64 0] 37)
                            have bn8 := Blk.new w6 37 #[.int .i64 0, .string ⟨#[]⟩, .int .i64 0, .int .i64 0, .int .i64 0, .slice none 0 0, .int .i64 0]
                            obtain ⟨w8, hw8⟩ : ∃ x, w6.alloc (.cells #[.int .i64 0, .string ⟨#[]⟩, .int .i64 0, .int .i64 0, .int .i64 0, .slice none 0 0, .int .i64 0] 37) = x := ⟨_, rfl⟩
                            obtain ⟨gB, hg8⟩ : ∃ x, w6.heap.size = x := ⟨_, rfl⟩
                            have D8 := hid (D6.out.alloc _ hw8 hg8)
                            rw [hw8] at z8 bn8 ⊢
                            rw [hg8] at bn8 ⊢
                            have HBB := hid (show base ≤ gB from by have := D6.out.2.2.2.1; omega)
                            have BX8 := hid (BX6.out.ext z8)
                            have O8 := hid (O6.out.ext z8)
                            have R8 := hid (R6.out.ext z8)
                            have BA8 := hid (BA6.out.ext z8)
                            have HAB := hid (show gA ≠ gB from by have := BA6.out.lt; omega)
                            have BB8 := hid bn8
                            clear hw8 hg8 z8 bn8
                            refine hK.out _ _ (KEEP.out _ BX8.out) ?_
                            clear hK K
                            try simp only [Act.put, lsa, lsb, lsc]
                            exact key0 A9 c9 A10 c10 gA gB _ ⟨D8.out.less (by intro k hk; simp at hk ⊢; rcases hk with h | h | h | h <;> simp [h]), BX8.out, O8.out, R8.out, BA8.out, BB8.out, HAB.out, HBA.out, HBB.out⟩
                        case t5_21 =>
                          intro K hK0
                          have hK := hid hK0
                          clear hK0
                          go_simp
                          have z9 := ext_alloc w4 (.cells #[.int .i64 0, .string ⟨#[]⟩, .int .i64 0, .int .i64 0, .int .i64 0, .slice none 0 0, .int .i64 0] 37)
                          have bn9 := Blk.new w4 37 #[.int .i64 0, .string ⟨#[]⟩, .int .i64 0, .int .i64 0, .int .i64 0, .slice none 0 0, .int .i64 0]
                          obtain ⟨w9, hw9⟩ : ∃ x, w4.alloc (.cells #[.int .i64 0, .string ⟨#[]⟩, .int .i64 0, .int .i64 0, .int .i64 0, .slice none 0 0, .int .i64 0] 37) = x := ⟨_, rfl⟩
                          obtain ⟨gB, hg9⟩ : ∃ x, w4.heap.size = x := ⟨_, rfl⟩
                          have D9 := hid (D4.out.alloc _ hw9 hg9)
                          rw [hw9] at z9 bn9 ⊢
                          rw [hg9] at bn9 ⊢
                          have HBB := hid (show base ≤ gB from by have := D4.out.2.2.2.1; omega)
                          have BX9 := hid (BX4.out.ext z9)
                          have O9 := hid (O4.out.ext z9)
                          have R9 := hid (R4.out.ext z9)
                          have BB9 := hid bn9
                          clear hw9 hg9 z9 bn9
                          refine hK.out _ _ (KEEP.out _ BX9.out) ?_
                          clear hK K
                          try simp only [Act.put, lsa, lsb, lsc]
                          refine EG_one 20 (by kernel_rfl) (by simp only [lga, lgb, lgc]; rfl) (by decide) ?t10_20
                          case t10_20 =>
                            intro K hK0
                            have hK := hid hK0
                            clear hK0
                            go_simp
                            have z11 := ext_alloc w9 (.cells #[.int .i64 0, .string ⟨#[]⟩, .int .i64 0, .int .i64 0, .int .i64 0, .slice none 0 0, .int .i64 0] 37)
                            have bn11 := Blk.new w9 37 #[.int .i64 0, .string ⟨#[]⟩, .int .i64 0, .int .i64 0, .int .i64 0, .slice none 0 0, .int .i64 0]
                            obtain ⟨w11, hw11⟩ : ∃ x, w9.alloc (.cells #[.int .i64 0, .string ⟨#[]⟩, .int .i64 0, .int .i64 0, .int .i64 0, .slice none 0 0, .int .i64 0] 37) = x := ⟨_, rfl⟩
                            obtain ⟨gA, hg11⟩ : ∃ x, w9.heap.size = x := ⟨_, rfl⟩
                            have D11 := hid (D9.out.alloc _ hw11 hg11)
                            rw [hw11] at z11 bn11 ⊢
                            rw [hg11] at bn11 ⊢
                            have HBA := hid (show base ≤ gA from by have := D9.out.2.2.2.1; omega)
                            have BX11 := hid (BX9.out.ext z11)
                            have O11 := hid (O9.out.ext z11)
                            have R11 := hid (R9.out.ext z11)
                            have BB11 := hid (BB9.out.ext z11)
                            have HAB := hid (show gA ≠ gB from by have := BB9.out.lt; omega)
                            have BA11 := hid bn11
                            clear hw11 hg11 z11 bn11
                            refine hK.out _ _ (KEEP.out _ BX11.out) ?_
                            clear hK K
                            try simp only [Act.put, lsa, lsb, lsc]
                            exact key0 A9 c9 A10 c10 gA gB _ ⟨D11.out.less (by intro k hk; simp at hk ⊢; rcases hk with h | h | h | h <;> simp [h]), BX11.out, O11.out, R11.out, BA11.out, BB11.out, HAB.out, HBA.out, HBB.out⟩
                      case t3_20 =>
                        intro K hK0
                        have hK := hid hK0
                        clear hK0
                        go_simp
                        have z12 := ext_alloc w2 (.cells #[.int .i64 0, .string ⟨#[]⟩, .int .i64 0, .int .i64 0, .int .i64 0, .slice none 0 0, .int .i64 0] 37)
                        have bn12 := Blk.new w2 37 #[.int .i64 0, .string ⟨#[]⟩, .int .i64 0, .int .i64 0, .int .i64 0, .slice none 0 0, .int .i64 0]
                        obtain ⟨w12, hw12⟩ : ∃ x, w2.alloc (.cells #[.int .i64 0, .string ⟨#[]⟩, .int .i64 0, .int .i64 0, .int .i64 0, .slice none 0 0, .int .i64 0] 37) = x := ⟨_, rfl⟩
                        obtain ⟨gA, hg12⟩ : ∃ x, w2.heap.size = x := ⟨_, rfl⟩
                        have D12 := hid (D2.out.alloc _ hw12 hg12)
                        rw [hw12] at z12 bn12 ⊢
                        rw [hg12] at bn12 ⊢
                        have HBA := hid (show base ≤ gA from by have := D2.out.2.2.2.1; omega)
                        have BX12 := hid (BX2.out.ext z12)
                        have O12 := hid (O2.out.ext z12)
                        have BA12 := hid bn12
                        clear hw12 hg12 z12 bn12
                        refine hK.out _ _ (KEEP.out _ BX12.out) ?_
                        clear hK K
                        try simp only [Act.put, lsa, lsb, lsc]
                        refine EG_two 19 21 (by kernel_rfl) (by simp only [lga, lgb, lgc]; rfl) (by simp only [lga, lgb, lgc]; rfl) (by decide) (by decide) ?t13_19 ?t13_21
                        case t13_19 =>
                          intro K hK0
                          have hK := hid hK0
                          clear hK0
                          go_simp
                          refine (RG.out _ _ D12.out).mono ?_
                          rintro e w14 ⟨A10, c10, rfl, on14, dn14, xn14⟩
                          rw [HF.out]
                          have D14 := hid dn14
                          have BX14 := hid (blk_out BX12.out xn14 (by simp))
                          have BA14 := hid (blk_out BA12.out xn14 (by simp))
                          have R14 := hid on14
                          have O14 := hid (xn14.ownG O12.out (fun k hk u => u.2 (by simp [hk])))
                          clear on14 dn14 xn14
                          go_simp
                          refine hK.out _ _ (KEEP.out _ BX14.out) ?_
                          clear hK K
                          try simp only [Act.put, lsa, lsb, lsc]
                          refine EG_one 21 (by kernel_rfl) (by simp only [lga, lgb, lgc]; rfl) (by decide) ?t15_21
                          case t15_21 =>
                            intro K hK0
                            have hK := hid hK0
                            clear hK0
                            go_simp
                            have z16 := ext_alloc w14 (.cells #[.int .i64 0, .string ⟨#[]⟩, .int .i64 0, .int .i64 0, .int .i64 0, .slice none 0 0, .int .i64 0] 37)
                            have bn16 := Blk.new w14 37 #[.int .i64 0, .string ⟨#[]⟩, .int .i64 0, .int .i64 0, .int .i64 0, .slice none 0 0, .int .i64 0]
                            obtain ⟨w16, hw16⟩ : ∃ x, w14.alloc (.cells #[.int .i64 0, .string ⟨#[]⟩, .int .i64 0, .int .i64 0, .int .i64 0, .slice none 0 0, .int .i64 0] 37) = x := ⟨_, rfl⟩
                            obtain ⟨gB, hg16⟩ : ∃ x, w14.heap.size = x := ⟨_, rfl⟩
                            have D16 := hid (D14.out.alloc _ hw16 hg16)
                            rw [hw16] at z16 bn16 ⊢
                            rw [hg16] at bn16 ⊢
                            have HBB := hid (show base ≤ gB from by have := D14.out.2.2.2.1; omega)
                            have BX16 := hid (BX14.out.ext z16)
                            have O16 := hid (O14.out.ext z16)
                            have R16 := hid (R14.out.ext z16)
                            have BA16 := hid (BA14.out.ext z16)
                            have HAB := hid (show gA ≠ gB from by have := BA14.out.lt; omega)
                            have BB16 := hid bn16
                            clear hw16 hg16 z16 bn16
                            refine hK.out _ _ (KEEP.out _ BX16.out) ?_
                            clear hK K
                            try simp only [Act.put, lsa, lsb, lsc]
                            exact key0 A9 c9 A10 c10 gA gB _ ⟨D16.out.less (by intro k hk; simp at hk ⊢; rcases hk with h | h | h | h <;> simp [h]), BX16.out, O16.out, R16.out, BA16.out, BB16.out, HAB.out, HBA.out, HBB.out⟩
                        case t13_21 =>
                          intro K hK0
                          have hK := hid hK0
                          clear hK0
                          go_simp
                          have z17 := ext_alloc w12 (.cells #[.int .i64 0, .string ⟨#[]⟩, .int .i64 0, .int .i64 0, .int .i64 0, .slice none 0 0, .int .i64 0] 37)
                          have bn17 := Blk.new w12 37 #[.int .i64 0, .string ⟨#[]⟩, .int .i64 0, .int .i64 0, .int .i64 0, .slice none 0 0, .int .i64 0]
                          obtain ⟨w17, hw17⟩ : ∃ x, w12.alloc (.cells #[.int .i64 0, .string ⟨#[]⟩, .int .i64 0, .int .i64 0, .int .i64 0, .slice none 0 0, .int .i64 0] 37) = x := ⟨_, rfl⟩
                          obtain ⟨gB, hg17⟩ : ∃ x, w12.heap.size = x := ⟨_, rfl⟩
                          have D17 := hid (D12.out.alloc _ hw17 hg17)
                          rw [hw17] at z17 bn17 ⊢
                          rw [hg17] at bn17 ⊢
                          have HBB := hid (show base ≤ gB from by have := D12.out.2.2.2.1; omega)
                          have BX17 := hid (BX12.out.ext z17)
                          have O17 := hid (O12.out.ext z17)
                          have BA17 := hid (BA12.out.ext z17)
                          have HAB := hid (show gA ≠ gB from by have := BA12.out.lt; omega)
                          have BB17 := hid bn17
                          clear hw17 hg17 z17 bn17
                          refine hK.out _ _ (KEEP.out _ BX17.out) ?_
                          clear hK K
                          try simp only [Act.put, lsa, lsb, lsc]
                          refine EG_one 19 (by kernel_rfl) (by simp only [lga, lgb, lgc]; rfl) (by decide) ?t18_19
                          case t18_19 =>
                            intro K hK0
                            have hK := hid hK0
                            clear hK0
                            go_simp
                            refine (RG.out _ _ D17.out).mono ?_
                            rintro e w19 ⟨A10, c10, rfl, on19, dn19, xn19⟩
                            rw [HF.out]
                            have D19 := hid dn19
                            have BX19 := hid (blk_out BX17.out xn19 (by simp))
                            have BA19 := hid (blk_out BA17.out xn19 (by simp))
                            have BB19 := hid (blk_out BB17.out xn19 (by simp))
                            have R19 := hid on19
                            have O19 := hid (xn19.ownG O17.out (fun k hk u => u.2 (by simp [hk])))
                            clear on19 dn19 xn19
                            go_simp
                            refine hK.out _ _ (KEEP.out _ BX19.out) ?_
                            clear hK K
                            try simp only [Act.put, lsa, lsb, lsc]
                            exact key0 A9 c9 A10 c10 gA gB _ ⟨D19.out.less (by intro k hk; simp at hk ⊢; rcases hk with h | h | h | h <;> simp [h]), BX19.out, O19.out, R19.out, BA19.out, BB19.out, HAB.out, HBA.out, HBB.out⟩
                      case t3_21 =>
                        intro K hK0
                        have hK := hid hK0
                        clear hK0
                        go_simp
                        have z20 := ext_alloc w2 (.cells #[.int .i64 0, .string ⟨#[]⟩, .int .i64 0, .int .i64 0, .int .i64 0, .slice none 0 0, .int .i64 0] 37)
                        have bn20 := Blk.new w2 37 #[.int .i64 0, .string ⟨#[]⟩, .int .i64 0, .int .i64 0, .int .i64 0, .slice none 0 0, .int .i64 0]
                        obtain ⟨w20, hw20⟩ : ∃ x, w2.alloc (.cells #[.int .i64 0, .string ⟨#[]⟩, .int .i64 0, .int .i64 0, .int .i64 0, .slice none 0 0, .int .i64 0] 37) = x := ⟨_, rfl⟩
                        obtain ⟨gB, hg20⟩ : ∃ x, w2.heap.size = x := ⟨_, rfl⟩
                        have D20 := hid (D2.out.alloc _ hw20 hg20)
                        rw [hw20] at z20 bn20 ⊢
                        rw [hg20] at bn20 ⊢
                        have HBB := hid (show base ≤ gB from by have := D2.out.2.2.2.1; omega)
                        have BX20 := hid (BX2.out.ext z20)
                        have O20 := hid (O2.out.ext z20)
                        have BB20 := hid bn20
                        clear hw20 hg20 z20 bn20
                        refine hK.out _ _ (KEEP.out _ BX20.out) ?_
                        clear hK K
                        try simp only [Act.put, lsa, lsb, lsc]
                        refine EG_two 19 20 (by kernel_rfl) (by simp only [lga, lgb, lgc]; rfl) (by simp only [lga, lgb, lgc]; rfl) (by decide) (by decide) ?t21_19 ?t21_20
                        case t21_19 =>
                          intro K hK0
                          have hK := hid hK0
                          clear hK0
                          go_simp
                          refine (RG.out _ _ D20.out).mono ?_
                          rintro e w22 ⟨A10, c10, rfl, on22, dn22, xn22⟩
                          rw [HF.out]
                          have D22 := hid dn22
                          have BX22 := hid (blk_out BX20.out xn22 (by simp))
                          have BB22 := hid (blk_out BB20.out xn22 (by simp))
                          have R22 := hid on22
                          have O22 := hid (xn22.ownG O20.out (fun k hk u => u.2 (by simp [hk])))
                          clear on22 dn22 xn22
                          go_simp
                          refine hK.out _ _ (KEEP.out _ BX22.out) ?_
                          clear hK K
                          try simp only [Act.put, lsa, lsb, lsc]
                          refine EG_one 20 (by kernel_rfl) (by simp only [lga, lgb, lgc]; rfl) (by decide) ?t23_20
                          case t23_20 =>
                            intro K hK0
                            have hK := hid hK0
                            clear hK0
                            go_simp
                            have z24 := ext_alloc w22 (.cells #[.int .i64 0, .string ⟨#[]⟩, .int .i64 0, .int .i64 0, .int .i64 0, .slice none 0 0, .int .i64 0] 37)
                            have bn24 := Blk.new w22 37 #[.int .i64 0, .string ⟨#[]⟩, .int .i64 0, .int .i64 0, .int .i64 0, .slice none 0 0, .int .i64 0]
                            obtain ⟨w24, hw24⟩ : ∃ x, w22.alloc (.cells #[.int .i64 0, .string ⟨#[]⟩, .int .i64 0, .int .i64 0, .int .i64 0, .slice none 0 0, .int .i64 0] 37) = x := ⟨_, rfl⟩
                            obtain ⟨gA, hg24⟩ : ∃ x, w22.heap.size = x := ⟨_, rfl⟩
                            have D24 := hid (D22.out.alloc _ hw24 hg24)
                            rw [hw24] at z24 bn24 ⊢
                            rw [hg24] at bn24 ⊢
                            have HBA := hid (show base ≤ gA from by have := D22.out.2.2.2.1; omega)
                            have BX24 := hid (BX22.out.ext z24)
                            have O24 := hid (O22.out.ext z24)
                            have R24 := hid (R22.out.ext z24)
                            have BB24 := hid (BB22.out.ext z24)
                            have HAB := hid (show gA ≠ gB from by have := BB22.out.lt; omega)
                            have BA24 := hid bn24
                            clear hw24 hg24 z24 bn24
                            refine hK.out _ _ (KEEP.out _ BX24.out) ?_
                            clear hK K
                            try simp only [Act.put, lsa, lsb, lsc]
                            exact key0 A9 c9 A10 c10 gA gB _ ⟨D24.out.less (by intro k hk; simp at hk ⊢; rcases hk with h | h | h | h <;> simp [h]), BX24.out, O24.out, R24.out, BA24.out, BB24.out, HAB.out, HBA.out, HBB.out⟩
                        case t21_20 =>
                          intro K hK0
                          have hK := hid hK0
                          clear hK0
                          go_simp
                          have z25 := ext_alloc w20 (.cells #[.int .i64 0, .string ⟨#[]⟩, .int .i64 0, .int .i64 0, .int .i64 0, .slice none 0 0, .int .i64 0] 37)
                          have bn25 := Blk.new w20 37 #[.int .i64 0, .string ⟨#[]⟩, .int .i64 0, .int .i64 0, .int .i64 0, .slice none 0 0, .int .i64 0]
                          obtain ⟨w25, hw25⟩ : ∃ x, w20.alloc (.cells #[.int .i64 0, .string ⟨#[]⟩, .int .i64 0, .int .i64 0, .int .i64 0, .slice none 0 0, .int .i64 0] 37) = x := ⟨_, rfl⟩
                          obtain ⟨gA, hg25⟩ : ∃ x, w20.heap.size = x := ⟨_, rfl⟩
                          have D25 := hid (D20.out.alloc _ hw25 hg25)
                          rw [hw25] at z25 bn25 ⊢
                          rw [hg25] at bn25 ⊢
                          have HBA := hid (show base ≤ gA from by have := D20.out.2.2.2.1; omega)
                          have BX25 := hid (BX20.out.ext z25)
                          have O25 := hid (O20.out.ext z25)
                          have BB25 := hid (BB20.out.ext z25)
                          have HAB := hid (show gA ≠ gB from by have := BB20.out.lt; omega)
                          have BA25 := hid bn25
                          clear hw25 hg25 z25 bn25
                          refine hK.out _ _ (KEEP.out _ BX25.out) ?_
                          clear hK K
                          try simp only [Act.put, lsa, lsb, lsc]
                          refine EG_one 19 (by kernel_rfl) (by simp only [lga, lgb, lgc]; rfl) (by decide) ?t26_19
                          case t26_19 =>
                            intro K hK0
                            have hK := hid hK0
                            clear hK0
                            go_simp
                            refine (RG.out _ _ D25.out).mono ?_
                            rintro e w27 ⟨A10, c10, rfl, on27, dn27, xn27⟩
                            rw [HF.out]
                            have D27 := hid dn27
                            have BX27 := hid (blk_out BX25.out xn27 (by simp))
                            have BA27 := hid (blk_out BA25.out xn27 (by simp))
                            have BB27 := hid (blk_out BB25.out xn27 (by simp))
                            have R27 := hid on27
                            have O27 := hid (xn27.ownG O25.out (fun k hk u => u.2 (by simp [hk])))
                            clear on27 dn27 xn27
                            go_simp
                            refine hK.out _ _ (KEEP.out _ BX27.out) ?_
                            clear hK K
                            try simp only [Act.put, lsa, lsb, lsc]
                            exact key0 A9 c9 A10 c10 gA gB _ ⟨D27.out.less (by intro k hk; simp at hk ⊢; rcases hk with h | h | h | h <;> simp [h]), BX27.out, O27.out, R27.out, BA27.out, BB27.out, HAB.out, HBA.out, HBB.out⟩
                    case t1_20 =>
                      intro K hK0
                      have hK := hid hK0
                      clear hK0
                      go_simp
                      have z28 := ext_alloc wd (.cells #[.int .i64 0, .string ⟨#[]⟩, .int .i64 0, .int .i64 0, .int .i64 0, .slice none 0 0, .int .i64 0] 37)
                      have bn28 := Blk.new wd 37 #[.int .i64 0, .string ⟨#[]⟩, .int .i64 0, .int .i64 0, .int .i64 0, .slice none 0 0, .int .i64 0]
                      obtain ⟨w28, hw28⟩ : ∃ x, wd.alloc (.cells #[.int .i64 0, .string ⟨#[]⟩, .int .i64 0, .int .i64 0, .int .i64 0, .slice none 0 0, .int .i64 0] 37) = x := ⟨_, rfl⟩
                      obtain ⟨gA, hg28⟩ : ∃ x, wd.heap.size = x := ⟨_, rfl⟩
                      have D28 := hid (DD0.out.alloc _ hw28 hg28)
                      rw [hw28] at z28 bn28 ⊢
                      rw [hg28] at bn28 ⊢
                      have HBA := hid (show base ≤ gA from by have := DD0.out.2.2.2.1; omega)
                      have BX28 := hid (BXD.out.ext z28)
                      have BA28 := hid bn28
                      clear hw28 hg28 z28 bn28
                      refine hK.out _ _ (KEEP.out _ BX28.out) ?_
                      clear hK K
                      try simp only [Act.put, lsa, lsb, lsc]
                      refine EG_two 9 21 (by kernel_rfl) (by simp only [lga, lgb, lgc]; rfl) (by simp only [lga, lgb, lgc]; rfl) (by decide) (by decide) ?t29_9 ?t29_21
                      case t29_9 =>
                        intro K hK0
                        have hK := hid hK0
                        clear hK0
                        go_simp
                        refine (CG.out _ _ D28.out).mono ?_
                        rintro e w30 ⟨A9, c9, rfl, on30, dn30, xn30⟩
                        rw [HF.out]
                        have D30 := hid dn30
                        have BX30 := hid (blk_out BX28.out xn30 (by simp))
                        have BA30 := hid (blk_out BA28.out xn30 (by simp))
                        have O30 := hid on30
                        clear on30 dn30 xn30
                        go_simp
                        refine hK.out _ _ (KEEP.out _ BX30.out) ?_
                        clear hK K
                        try simp only [Act.put, lsa, lsb, lsc]
                        refine EG_two 19 21 (by kernel_rfl) (by simp only [lga, lgb, lgc]; rfl) (by simp only [lga, lgb, lgc]; rfl) (by decide) (by decide) ?t31_19 ?t31_21
                        case t31_19 =>
                          intro K hK0
                          have hK := hid hK0
                          clear hK0
                          go_simp
                          refine (RG.out _ _ D30.out).mono ?_
                          rintro e w32 ⟨A10, c10, rfl, on32, dn32, xn32⟩
                          rw [HF.out]
                          have D32 := hid dn32
                          have BX32 := hid (blk_out BX30.out xn32 (by simp))
                          have BA32 := hid (blk_out BA30.out xn32 (by simp))
                          have R32 := hid on32
                          have O32 := hid (xn32.ownG O30.out (fun k hk u => u.2 (by simp [hk])))
                          clear on32 dn32 xn32
                          go_simp
                          refine hK.out _ _ (KEEP.out _ BX32.out) ?_
                          clear hK K
                          try simp only [Act.put, lsa, lsb, lsc]
                          refine EG_one 21 (by kernel_rfl) (by simp only [lga, lgb, lgc]; rfl) (by decide) ?t33_21
                          case t33_21 =>
                            intro K hK0
                            have hK := hid hK0
                            clear hK0
                            go_simp
                            have z34 := ext_alloc w32 (.cells #[.int .i64 0, .string ⟨#[]⟩, .int .i64 0, .int .i64 0, .int .i64 0, .slice none 0 0, .int .i64 0] 37)
                            have bn34 := Blk.new w32 37 #[.int .i64 0, .string ⟨#[]⟩, .int .i64 0, .int .i64 0, .int .i64 0, .slice none 0 0, .int .i64 0]
                            obtain ⟨w34, hw34⟩ : ∃ x, w32.alloc (.cells #[.int .i64 0, .string ⟨#[]⟩, .int .i64 0, .int .i64 0, .int .i64 0, .slice none 0 0, .int .i64 0] 37) = x := ⟨_, rfl⟩
                            obtain ⟨gB, hg34⟩ : ∃ x, w32.heap.size = x := ⟨_, rfl⟩
                            have D34 := hid (D32.out.alloc _ hw34 hg34)
                            rw [hw34] at z34 bn34 ⊢
                            rw [hg34] at bn34 ⊢
                            have HBB := hid (show base ≤ gB from by have := D32.out.2.2.2.1; omega)
                            have BX34 := hid (BX32.out.ext z34)
                            have O34 := hid (O32.out.ext z34)
                            have R34 := hid (R32.out.ext z34)
                            have BA34 := hid (BA32.out.ext z34)
                            have HAB := hid (show gA ≠ gB from by have := BA32.out.lt; omega)
                            have BB34 := hid bn34
                            clear hw34 hg34 z34 bn34
                            refine hK.out _ _ (KEEP.out _ BX34.out) ?_
                            clear hK K
                            try simp only [Act.put, lsa, lsb, lsc]
                            exact key0 A9 c9 A10 c10 gA gB _ ⟨D34.out.less (by intro k hk; simp at hk ⊢; rcases hk with h | h | h | h <;> simp [h]), BX34.out, O34.out, R34.out, BA34.out, BB34.out, HAB.out, HBA.out, HBB.out⟩
                        case t31_21 =>
                          intro K hK0
                          have hK := hid hK0
                          clear hK0
                          go_simp
                          have z35 := ext_alloc w30 (.cells #[.int .i64 0, .string ⟨#[]⟩, .int .i64 0, .int .i64 0, .int .i64 0, .slice none 0 0, .int .i64 0] 37)
                          have bn35 := Blk.new w30 37 #[.int .i64 0, .string ⟨#[]⟩, .int .i64 0, .int .i64 0, .int .i64 0, .slice none 0 0, .int .i64 0]
                          obtain ⟨w35, hw35⟩ : ∃ x, w30.alloc (.cells #[.int .i64 0, .string ⟨#[]⟩, .int .i64 0, .int .i64 0, .int .i64 0, .slice none 0 0, .int .i64 0] 37) = x := ⟨_, rfl⟩
                          obtain ⟨gB, hg35⟩ : ∃ x, w30.heap.size = x := ⟨_, rfl⟩
                          have D35 := hid (D30.out.alloc _ hw35 hg35)
                          rw [hw35] at z35 bn35 ⊢
                          rw [hg35] at bn35 ⊢
                          have HBB := hid (show base ≤ gB from by have := D30.out.2.2.2.1; omega)
                          have BX35 := hid (BX30.out.ext z35)
                          have O35 := hid (O30.out.ext z35)
                          have BA35 := hid (BA30.out.ext z35)
                          have HAB := hid (show gA ≠ gB from by have := BA30.out.lt; omega)
                          have BB35 := hid bn35
                          clear hw35 hg35 z35 bn35
                          refine hK.out _ _ (KEEP.out _ BX35.out) ?_
                          clear hK K
                          try simp only [Act.put, lsa, lsb, lsc]
                          refine EG_one 19 (by kernel_rfl) (by simp only [lga, lgb, lgc]; rfl) (by decide) ?t36_19
                          case t36_19 =>
                            intro K hK0
                            have hK := hid hK0
                            clear hK0
                            go_simp
                            refine (RG.out _ _ D35.out).mono ?_
                            rintro e w37 ⟨A10, c10, rfl, on37, dn37, xn37⟩
                            rw [HF.out]
                            have D37 := hid dn37
                            have BX37 := hid (blk_out BX35.out xn37 (by simp))
                            have BA37 := hid (blk_out BA35.out xn37 (by simp))
                            have BB37 := hid (blk_out BB35.out xn37 (by simp))
                            have R37 := hid on37
                            have O37 := hid (xn37.ownG O35.out (fun k hk u => u.2 (by simp [hk])))
                            clear on37 dn37 xn37
                            go_simp
                            refine hK.out _ _ (KEEP.out _ BX37.out) ?_
                            clear hK K
                            try simp only [Act.put, lsa, lsb, lsc]
                            exact key0 A9 c9 A10 c10 gA gB _ ⟨D37.out.less (by intro k hk; simp at hk ⊢; rcases hk with h | h | h | h <;> simp [h]), BX37.out, O37.out, R37.out, BA37.out, BB37.out, HAB.out, HBA.out, HBB.out⟩
                      case t29_21 =>
                        intro K hK0
                        have hK := hid hK0
                        clear hK0
                        go_simp
                        have z38 := ext_alloc w28 (.cells #[.int .i64 0, .string ⟨#[]⟩, .int .i64 0, .int .i64 0, .int .i64 0, .slice none 0 0, .int .i64 0] 37)
                        have bn38 := Blk.new w28 37 #[.int .i64 0, .string ⟨#[]⟩, .int .i64 0, .int .i64 0, .int .i64 0, .slice none 0 0, .int .i64 0]
                        obtain ⟨w38, hw38⟩ : ∃ x, w28.alloc (.cells #[.int .i64 0, .string ⟨#[]⟩, .int .i64 0, .int .i64 0, .int .i64 0, .slice none 0 0, .int .i64 0] 37) = x := ⟨_, rfl⟩
                        obtain ⟨gB, hg38⟩ : ∃ x, w28.heap.size = x := ⟨_, rfl⟩
                        have D38 := hid (D28.out.alloc _ hw38 hg38)
                        rw [hw38] at z38 bn38 ⊢
                        rw [hg38] at bn38 ⊢
                        have HBB := hid (show base ≤ gB from by have := D28.out.2.2.2.1; omega)
                        have BX38 := hid (BX28.out.ext z38)
                        have BA38 := hid (BA28.out.ext z38)
                        have HAB := hid (show gA ≠ gB from by have := BA28.out.lt; omega)
                        have BB38 := hid bn38
                        clear hw38 hg38 z38 bn38
                        refine hK.out _ _ (KEEP.out _ BX38.out) ?_
                        clear hK K
                        try simp only [Act.put, lsa, lsb, lsc]
                        refine EG_one 9 (by kernel_rfl) (by simp only [lga, lgb, lgc]; rfl) (by decide) ?t39_9
                        case t39_9 =>
                          intro K hK0
                          have hK := hid hK0
                          clear hK0
                          go_simp
                          refine (CG.out _ _ D38.out).mono ?_
                          rintro e w40 ⟨A9, c9, rfl, on40, dn40, xn40⟩
                          rw [HF.out]
                          have D40 := hid dn40
                          have BX40 := hid (blk_out BX38.out xn40 (by simp))
                          have BA40 := hid (blk_out BA38.out xn40 (by simp))
                          have BB40 := hid (blk_out BB38.out xn40 (by simp))
                          have O40 := hid on40
                          clear on40 dn40 xn40
                          go_simp
                          refine hK.out _ _ (KEEP.out _ BX40.out) ?_
                          clear hK K
                          try simp only [Act.put, lsa, lsb, lsc]
                          refine EG_one 19 (by kernel_rfl) (by simp only [lga, lgb, lgc]; rfl) (by decide) ?t41_19
                          case t41_19 =>
                            intro K hK0
                            have hK := hid hK0
                            clear hK0
                            go_simp
                            refine (RG.out _ _ D40.out).mono ?_
                            rintro e w42 ⟨A10, c10, rfl, on42, dn42, xn42⟩
                            rw [HF.out]
                            have D42 := hid dn42
                            have BX42 := hid (blk_out BX40.out xn42 (by simp))
                            have BA42 := hid (blk_out BA40.out xn42 (by simp))
                            have BB42 := hid (blk_out BB40.out xn42 (by simp))
                            have R42 := hid on42
                            have O42 := hid (xn42.ownG O40.out (fun k hk u => u.2 (by simp [hk])))
                            clear on42 dn42 xn42
                            go_simp
                            refine hK.out _ _ (KEEP.out _ BX42.out) ?_
                            clear hK K
                            try simp only [Act.put, lsa, lsb, lsc]
                            exact key0 A9 c9 A10 c10 gA gB _ ⟨D42.out.less (by intro k hk; simp at hk ⊢; rcases hk with h | h | h | h <;> simp [h]), BX42.out, O42.out, R42.out, BA42.out, BB42.out, HAB.out, HBA.out, HBB.out⟩
                    case t1_21 =>
                      intro K hK0
                      have hK := hid hK0
                      clear hK0
                      go_simp
                      have z43 := ext_alloc wd (.cells #[.int .i64 0, .string ⟨#[]⟩, .int .i64 0, .int .i64 0, .int .i64 0, .slice none 0 0, .int .i64 0] 37)
                      have bn43 := Blk.new wd 37 #[.int .i64 0, .string ⟨#[]⟩, .int .i64 0, .int .i64 0, .int .i64 0, .slice none 0 0, .int .i64 0]
                      obtain ⟨w43, hw43⟩ : ∃ x, wd.alloc (.cells #[.int .i64 0, .string ⟨#[]⟩, .int .i64 0, .int .i64 0, .int .i64 0, .slice none 0 0, .int .i64 0] 37) = x := ⟨_, rfl⟩
                      obtain ⟨gB, hg43⟩ : ∃ x, wd.heap.size = x := ⟨_, rfl⟩
                      have D43 := hid (DD0.out.alloc _ hw43 hg43)
                      rw [hw43] at z43 bn43 ⊢
                      rw [hg43] at bn43 ⊢
                      have HBB := hid (show base ≤ gB from by have := DD0.out.2.2.2.1; omega)
                      have BX43 := hid (BXD.out.ext z43)
                      have BB43 := hid bn43
                      clear hw43 hg43 z43 bn43
                      refine hK.out _ _ (KEEP.out _ BX43.out) ?_
                      clear hK K
                      try simp only [Act.put, lsa, lsb, lsc]
                      refine EG_two 9 20 (by kernel_rfl) (by simp only [lga, lgb, lgc]; rfl) (by simp only [lga, lgb, lgc]; rfl) (by decide) (by decide) ?t44_9 ?t44_20
                      case t44_9 =>
                        intro K hK0
                        have hK := hid hK0
                        clear hK0
                        go_simp
                        refine (CG.out _ _ D43.out).mono ?_
                        rintro e w45 ⟨A9, c9, rfl, on45, dn45, xn45⟩
                        rw [HF.out]
                        have D45 := hid dn45
                        have BX45 := hid (blk_out BX43.out xn45 (by simp))
                        have BB45 := hid (blk_out BB43.out xn45 (by simp))
                        have O45 := hid on45
                        clear on45 dn45 xn45
                        go_simp
                        refine hK.out _ _ (KEEP.out _ BX45.out) ?_
                        clear hK K
                        try simp only [Act.put, lsa, lsb, lsc]
                        refine EG_two 19 20 (by kernel_rfl) (by simp only [lga, lgb, lgc]; rfl) (by simp only [lga, lgb, lgc]; rfl) (by decide) (by decide) ?t46_19 ?t46_20
                        case t46_19 =>
                          intro K hK0
                          have hK := hid hK0
                          clear hK0
                          go_simp
                          refine (RG.out _ _ D45.out).mono ?_
                          rintro e w47 ⟨A10, c10, rfl, on47, dn47, xn47⟩
                          rw [HF.out]
                          have D47 := hid dn47
                          have BX47 := hid (blk_out BX45.out xn47 (by simp))
                          have BB47 := hid (blk_out BB45.out xn47 (by simp))
                          have R47 := hid on47
                          have O47 := hid (xn47.ownG O45.out (fun k hk u => u.2 (by simp [hk])))
                          clear on47 dn47 xn47
                          go_simp
                          refine hK.out _ _ (KEEP.out _ BX47.out) ?_
                          clear hK K
                          try simp only [Act.put, lsa, lsb, lsc]
                          refine EG_one 20 (by kernel_rfl) (by simp only [lga, lgb, lgc]; rfl) (by decide) ?t48_20
                          case t48_20 =>
                            intro K hK0
                            have hK := hid hK0
                            clear hK0
                            go_simp
                            have z49 := ext_alloc w47 (.cells #[.int .i64 0, .string ⟨#[]⟩, .int .i64 0, .int .i64 0, .int .i64 0, .slice none 0 0, .int .i64 0] 37)
                            have bn49 := Blk.new w47 37 #[.int .i64 0, .string ⟨#[]⟩, .int .i64 0, .int .i64 0, .int .i64 0, .slice none 0 0, .int .i64 0]
                            obtain ⟨w49, hw49⟩ : ∃ x, w47.alloc (.cells #[.int .i64 0, .string ⟨#[]⟩, .int .i64 0, .int .i64 0, .int .i64 0, .slice none 0 0, .int .i64 0] 37) = x := ⟨_, rfl⟩
                            obtain ⟨gA, hg49⟩ : ∃ x, w47.heap.size = x := ⟨_, rfl⟩
                            have D49 := hid (D47.out.alloc _ hw49 hg49)
                            rw [hw49] at z49 bn49 ⊢
                            rw [hg49] at bn49 ⊢
                            have HBA := hid (show base ≤ gA from by have := D47.out.2.2.2.1; omega)
                            have BX49 := hid (BX47.out.ext z49)
                            have O49 := hid (O47.out.ext z49)
                            have R49 := hid (R47.out.ext z49)
                            have BB49 := hid (BB47.out.ext z49)
                            have HAB := hid (show gA ≠ gB from by have := BB47.out.lt; omega)
                            have BA49 := hid bn49
                            clear hw49 hg49 z49 bn49
                            refine hK.out _ _ (KEEP.out _ BX49.out) ?_
                            clear hK K
                            try simp only [Act.put, lsa, lsb, lsc]
                            exact key0 A9 c9 A10 c10 gA gB _ ⟨D49.out.less (by intro k hk; simp at hk ⊢; rcases hk with h | h | h | h <;> simp [h]), BX49.out, O49.out, R49.out, BA49.out, BB49.out, HAB.out, HBA.out, HBB.out⟩
                        case t46_20 =>
                          intro K hK0
                          have hK := hid hK0
                          clear hK0
                          go_simp
                          have z50 := ext_alloc w45 (.cells #[.int .i64 0, .string ⟨#[]⟩, .int .i64 0, .int .i64 0, .int .i64 0, .slice none 0 0, .int .i64 0] 37)
                          have bn50 := Blk.new w45 37 #[.int .i64 0, .string ⟨#[]⟩, .int .i64 0, .int .i64 0, .int .i64 0, .slice none 0 0, .int .i64 0]
                          obtain ⟨w50, hw50⟩ : ∃ x, w45.alloc (.cells #[.int .i64 0, .string ⟨#[]⟩, .int .i64 0, .int .i64 0, .int .i64 0, .slice none 0 0, .int .i64 0] 37) = x := ⟨_, rfl⟩
                          obtain ⟨gA, hg50⟩ : ∃ x, w45.heap.size = x := ⟨_, rfl⟩
                          have D50 := hid (D45.out.alloc _ hw50 hg50)
                          rw [hw50] at z50 bn50 ⊢
                          rw [hg50] at bn50 ⊢
                          have HBA := hid (show base ≤ gA from by have := D45.out.2.2.2.1; omega)
                          have BX50 := hid (BX45.out.ext z50)
                          have O50 := hid (O45.out.ext z50)
                          have BB50 := hid (BB45.out.ext z50)
                          have HAB := hid (show gA ≠ gB from by have := BB45.out.lt; omega)
                          have BA50 := hid bn50
                          clear hw50 hg50 z50 bn50
                          refine hK.out _ _ (KEEP.out _ BX50.out) ?_
                          clear hK K
                          try simp only [Act.put, lsa, lsb, lsc]
                          refine EG_one 19 (by kernel_rfl) (by simp only [lga, lgb, lgc]; rfl) (by decide) ?t51_19
                          case t51_19 =>
                            intro K hK0
                            have hK := hid hK0
                            clear hK0
                            go_simp
                            refine (RG.out _ _ D50.out).mono ?_
                            rintro e w52 ⟨A10, c10, rfl, on52, dn52, xn52⟩
                            rw [HF.out]
                            have D52 := hid dn52
                            have BX52 := hid (blk_out BX50.out xn52 (by simp))
                            have BA52 := hid (blk_out BA50.out xn52 (by simp))
                            have BB52 := hid (blk_out BB50.out xn52 (by simp))
                            have R52 := hid on52
                            have O52 := hid (xn52.ownG O50.out (fun k hk u => u.2 (by simp [hk])))
                            clear on52 dn52 xn52
                            go_simp
                            refine hK.out _ _ (KEEP.out _ BX52.out) ?_
                            clear hK K
                            try simp only [Act.put, lsa, lsb, lsc]
                            exact key0 A9 c9 A10 c10 gA gB _ ⟨D52.out.less (by intro k hk; simp at hk ⊢; rcases hk with h | h | h | h <;> simp [h]), BX52.out, O52.out, R52.out, BA52.out, BB52.out, HAB.out, HBA.out, HBB.out⟩
                      case t44_20 =>
                        intro K hK0
                        have hK := hid hK0
                        clear hK0
                        go_simp
                        have z53 := ext_alloc w43 (.cells #[.int .i64 0, .string ⟨#[]⟩, .int .i64 0, .int .i64 0, .int .i64 0, .slice none 0 0, .int .i64 0] 37)
                        have bn53 := Blk.new w43 37 #[.int .i64 0, .string ⟨#[]⟩, .int .i64 0, .int .i64 0, .int .i64 0, .slice none 0 0, .int .i64 0]
                        obtain ⟨w53, hw53⟩ : ∃ x, w43.alloc (.cells #[.int .i64 0, .string ⟨#[]⟩, .int .i64 0, .int .i64 0, .int .i64 0, .slice none 0 0, .int .i64 0] 37) = x := ⟨_, rfl⟩
                        obtain ⟨gA, hg53⟩ : ∃ x, w43.heap.size = x := ⟨_, rfl⟩
                        have D53 := hid (D43.out.alloc _ hw53 hg53)
                        rw [hw53] at z53 bn53 ⊢
                        rw [hg53] at bn53 ⊢
                        have HBA := hid (show base ≤ gA from by have := D43.out.2.2.2.1; omega)
                        have BX53 := hid (BX43.out.ext z53)
                        have BB53 := hid (BB43.out.ext z53)
                        have HAB := hid (show gA ≠ gB from by have := BB43.out.lt; omega)
                        have BA53 := hid bn53
                        clear hw53 hg53 z53 bn53
                        refine hK.out _ _ (KEEP.out _ BX53.out) ?_
                        clear hK K
                        try simp only [Act.put, lsa, lsb, lsc]
                        refine EG_one 9 (by kernel_rfl) (by simp only [lga, lgb, lgc]; rfl) (by decide) ?t54_9
                        case t54_9 =>
                          intro K hK0
                          have hK := hid hK0
                          clear hK0
                          go_simp
                          refine (CG.out _ _ D53.out).mono ?_
                          rintro e w55 ⟨A9, c9, rfl, on55, dn55, xn55⟩
                          rw [HF.out]
                          have D55 := hid dn55
                          have BX55 := hid (blk_out BX53.out xn55 (by simp))
                          have BA55 := hid (blk_out BA53.out xn55 (by simp))
                          have BB55 := hid (blk_out BB53.out xn55 (by simp))
                          have O55 := hid on55
                          clear on55 dn55 xn55
                          go_simp
                          refine hK.out _ _ (KEEP.out _ BX55.out) ?_
                          clear hK K
                          try simp only [Act.put, lsa, lsb, lsc]
                          refine EG_one 19 (by kernel_rfl) (by simp only [lga, lgb, lgc]; rfl) (by decide) ?t56_19
                          case t56_19 =>
                            intro K hK0
                            have hK := hid hK0
                            clear hK0
                            go_simp
                            refine (RG.out _ _ D55.out).mono ?_
                            rintro e w57 ⟨A10, c10, rfl, on57, dn57, xn57⟩
                            rw [HF.out]
                            have D57 := hid dn57
                            have BX57 := hid (blk_out BX55.out xn57 (by simp))
                            have BA57 := hid (blk_out BA55.out xn57 (by simp))
                            have BB57 := hid (blk_out BB55.out xn57 (by simp))
                            have R57 := hid on57
                            have O57 := hid (xn57.ownG O55.out (fun k hk u => u.2 (by simp [hk])))
                            clear on57 dn57 xn57
                            go_simp
                            refine hK.out _ _ (KEEP.out _ BX57.out) ?_
                            clear hK K
                            try simp only [Act.put, lsa, lsb, lsc]
                            exact key0 A9 c9 A10 c10 gA gB _ ⟨D57.out.less (by intro k hk; simp at hk ⊢; rcases hk with h | h | h | h <;> simp [h]), BX57.out, O57.out, R57.out, BA57.out, BB57.out, HAB.out, HBA.out, HBB.out⟩
                  case key =>
                    rintro A9 c9 A10 c10 gA gB w5 ⟨d5, bx5, o5, r5, ba5, bb5, hab, hba, hbb⟩
                    have D5 := hid d5
                    have BX5 := hid bx5
                    have O5 := hid o5
                    have R5 := hid r5
                    have BA5 := hid ba5
                    have BB5 := hid bb5
                    have HAB := hid hab
                    have HBA := hid hba
                    have HBB := hid hbb
                    clear d5 bx5 o5 r5 ba5 bb5 hab hba hbb CG RG
                    have rc0 := BA5.out.cell 0
                    have rc1 := BA5.out.cell 1
                    have rc2 := BA5.out.cell 2
                    have rc3 := BA5.out.cell 3
                    have rc4 := BA5.out.cell 4
                    have rc5 := BA5.out.cell 5
                    have rc6 := BA5.out.cell 6
                    simp at rc0 rc1 rc2 rc3 rc4 rc5 rc6
                    have rf := BA5.out.frozen
                    refine EG_one 22 (by kernel_rfl) (by simp only [lga, lgb, lgc]; rfl) (by decide) ?_
                    intro K hK0
                    have hK := hid hK0
                    clear hK0
                    go_simp
                    have sF : Shy (fun k => k = gA) w5 (((((((w5.setCell ⟨gA, 0, none⟩ (.int .i64 F.kind)).setCell ⟨gA, 1, none⟩ (.string fn)).setCell ⟨gA, 2, none⟩ (.int .i64 F.s.ty)).setCell ⟨gA, 3, none⟩ (.int .i64 F.s.cl)).setCell ⟨gA, 4, none⟩ (.int .i64 F.s.ttl)).setCell ⟨gA, 5, none⟩ (.slice A9 fln c9)).setCell ⟨gA, 6, none⟩ (.int .i64 F.left)) := ((((((((Shy.refl w5 (U := fun k => k = gA)).set (b := gA) (fun _ => rfl) 0 (.int .i64 F.kind)).set (b := gA) (fun _ => rfl) 1 (.string fn)).set (b := gA) (fun _ => rfl) 2 (.int .i64 F.s.ty)).set (b := gA) (fun _ => rfl) 3 (.int .i64 F.s.cl)).set (b := gA) (fun _ => rfl) 4 (.int .i64 F.s.ttl)).set (b := gA) (fun _ => rfl) 5 (.slice A9 fln c9)).set (b := gA) (fun _ => rfl) 6 (.int .i64 F.left))
                    have bF : Blk (((((((w5.setCell ⟨gA, 0, none⟩ (.int .i64 F.kind)).setCell ⟨gA, 1, none⟩ (.string fn)).setCell ⟨gA, 2, none⟩ (.int .i64 F.s.ty)).setCell ⟨gA, 3, none⟩ (.int .i64 F.s.cl)).setCell ⟨gA, 4, none⟩ (.int .i64 F.s.ttl)).setCell ⟨gA, 5, none⟩ (.slice A9 fln c9)).setCell ⟨gA, 6, none⟩ (.int .i64 F.left)) gA 37 #[.int .i64 F.kind, .string fn, .int .i64 F.s.ty, .int .i64 F.s.cl, .int .i64 F.s.ttl, .slice A9 fln c9, .int .i64 F.left] := by
                      have := (((((((BA5.out.set_ 0 (.int .i64 F.kind)).set_ 1 (.string fn)).set_ 2 (.int .i64 F.s.ty)).set_ 3 (.int .i64 F.s.cl)).set_ 4 (.int .i64 F.s.ttl)).set_ 5 (.slice A9 fln c9)).set_ 6 (.int .i64 F.left))
                      simpa using this
                    obtain ⟨w6, hwF⟩ : ∃ x, (((((((w5.setCell ⟨gA, 0, none⟩ (.int .i64 F.kind)).setCell ⟨gA, 1, none⟩ (.string fn)).setCell ⟨gA, 2, none⟩ (.int .i64 F.s.ty)).setCell ⟨gA, 3, none⟩ (.int .i64 F.s.cl)).setCell ⟨gA, 4, none⟩ (.int .i64 F.s.ttl)).setCell ⟨gA, 5, none⟩ (.slice A9 fln c9)).setCell ⟨gA, 6, none⟩ (.int .i64 F.left)) = x := ⟨_, rfl⟩
                    rw [hwF] at sF bF ⊢
                    have BA6 := hid bF
                    clear hwF bF rf rc0 rc1 rc2 rc3 rc4 rc5 rc6
                    have BX6 := hid (BX5.out.shy sF (fun e => blk_apart BX5.out BA5.out (by decide) e))
                    have BB6 := hid (BB5.out.shy sF (fun e => HAB.out e.symm))
                    have O6 := hid (sF.ownG O5.out (own_apart O5.out BA5.out (by decide)))
                    have R6 := hid (sF.ownG R5.out (own_apart R5.out BA5.out (by decide)))
                    have D6 := hid (D5.out.off sF (fun k e => by rw [e]; simp) (fun k e => by rw [e]; exact HBA.out))
                    clear sF
                    refine hK.out _ _ (KEEP.out _ BX6.out) ?_
                    clear hK K BA5 D5 BX5 O5 R5 BB5
                    try simp only [Act.put, lsa, lsb, lsc]
                    have rc0 := BB6.out.cell 0
                    have rc1 := BB6.out.cell 1
                    have rc2 := BB6.out.cell 2
                    have rc3 := BB6.out.cell 3
                    have rc4 := BB6.out.cell 4
                    have rc5 := BB6.out.cell 5
                    have rc6 := BB6.out.cell 6
                    simp at rc0 rc1 rc2 rc3 rc4 rc5 rc6
                    have rf := BB6.out.frozen
                    refine EG_end (by kernel_rfl) (by simp only [lga, lgb, lgc]; rfl) ?_
                    intro K hK0
                    have hK := hid hK0
                    clear hK0
                    go_simp
                    have sF : Shy (fun k => k = gB) w6 (((((((w6.setCell ⟨gB, 0, none⟩ (.int .i64 F.kind)).setCell ⟨gB, 1, none⟩ (.string fn)).setCell ⟨gB, 2, none⟩ (.int .i64 F.s.ty)).setCell ⟨gB, 3, none⟩ (.int .i64 F.s.cl)).setCell ⟨gB, 4, none⟩ (.int .i64 F.s.ttl)).setCell ⟨gB, 5, none⟩ (.slice A10 fln c10)).setCell ⟨gB, 6, none⟩ (.int .i64 F.left)) := ((((((((Shy.refl w6 (U := fun k => k = gB)).set (b := gB) (fun _ => rfl) 0 (.int .i64 F.kind)).set (b := gB) (fun _ => rfl) 1 (.string fn)).set (b := gB) (fun _ => rfl) 2 (.int .i64 F.s.ty)).set (b := gB) (fun _ => rfl) 3 (.int .i64 F.s.cl)).set (b := gB) (fun _ => rfl) 4 (.int .i64 F.s.ttl)).set (b := gB) (fun _ => rfl) 5 (.slice A10 fln c10)).set (b := gB) (fun _ => rfl) 6 (.int .i64 F.left))
                    have bF : Blk (((((((w6.setCell ⟨gB, 0, none⟩ (.int .i64 F.kind)).setCell ⟨gB, 1, none⟩ (.string fn)).setCell ⟨gB, 2, none⟩ (.int .i64 F.s.ty)).setCell ⟨gB, 3, none⟩ (.int .i64 F.s.cl)).setCell ⟨gB, 4, none⟩ (.int .i64 F.s.ttl)).setCell ⟨gB, 5, none⟩ (.slice A10 fln c10)).setCell ⟨gB, 6, none⟩ (.int .i64 F.left)) gB 37 #[.int .i64 F.kind, .string fn, .int .i64 F.s.ty, .int .i64 F.s.cl, .int .i64 F.s.ttl, .slice A10 fln c10, .int .i64 F.left] := by
                      have := (((((((BB6.out.set_ 0 (.int .i64 F.kind)).set_ 1 (.string fn)).set_ 2 (.int .i64 F.s.ty)).set_ 3 (.int .i64 F.s.cl)).set_ 4 (.int .i64 F.s.ttl)).set_ 5 (.slice A10 fln c10)).set_ 6 (.int .i64 F.left))
                      simpa using this
                    obtain ⟨w7, hwF⟩ : ∃ x, (((((((w6.setCell ⟨gB, 0, none⟩ (.int .i64 F.kind)).setCell ⟨gB, 1, none⟩ (.string fn)).setCell ⟨gB, 2, none⟩ (.int .i64 F.s.ty)).setCell ⟨gB, 3, none⟩ (.int .i64 F.s.cl)).setCell ⟨gB, 4, none⟩ (.int .i64 F.s.ttl)).setCell ⟨gB, 5, none⟩ (.slice A10 fln c10)).setCell ⟨gB, 6, none⟩ (.int .i64 F.left)) = x := ⟨_, rfl⟩
                    rw [hwF] at sF bF ⊢
                    have BB7 := hid bF
                    clear hwF bF rf rc0 rc1 rc2 rc3 rc4 rc5 rc6
                    have BA7 := hid (BA6.out.shy sF (fun e => HAB.out e))
                    have O7 := hid (sF.ownG O6.out (own_apart O6.out BB6.out (by decide)))
                    have R7 := hid (sF.ownG R6.out (own_apart R6.out BB6.out (by decide)))
                    have D7 := hid (D6.out.off sF (fun k e => by rw [e]; simp) (fun k e => by rw [e]; exact HBB.out))
                    clear sF
                    refine hK.out _ _ ?_
                    clear hK K
                    refine NoPanic.normal ?_
                    clear BB6 BA6 D6 BX6 O6 R6
                    have SFN := same_found (w := w7) (k := F.kind) (l := F.left) (s := F.s) (A := A9) (B := A10) (ca := c9) (cb := c10) (by rw [HFL.out]; exact O7.out.rd) (by rw [HFL.out]; exact R7.out.rd) (by have := HLEN.out; omega)
                    simp only [fndV, HFN.out, HFL.out] at SFN
                    have SFN := hid SFN
                    have ra0 : w7.cell? ⟨gA, 0, none⟩ = some (.int .i64 F.kind) := BA7.out.cell 0
                    have rb0 : w7.cell? ⟨gB, 0, none⟩ = some (.int .i64 F.kind) := BB7.out.cell 0
                    have ra1 : w7.cell? ⟨gA, 1, none⟩ = some (.string fn) := BA7.out.cell 1
                    have rb1 : w7.cell? ⟨gB, 1, none⟩ = some (.string fn) := BB7.out.cell 1
                    have ra2 : w7.cell? ⟨gA, 2, none⟩ = some (.int .i64 F.s.ty) := BA7.out.cell 2
                    have rb2 : w7.cell? ⟨gB, 2, none⟩ = some (.int .i64 F.s.ty) := BB7.out.cell 2
                    have ra3 : w7.cell? ⟨gA, 3, none⟩ = some (.int .i64 F.s.cl) := BA7.out.cell 3
                    have rb3 : w7.cell? ⟨gB, 3, none⟩ = some (.int .i64 F.s.cl) := BB7.out.cell 3
                    have ra4 : w7.cell? ⟨gA, 4, none⟩ = some (.int .i64 F.s.ttl) := BA7.out.cell 4
                    have rb4 : w7.cell? ⟨gB, 4, none⟩ = some (.int .i64 F.s.ttl) := BB7.out.cell 4
                    have ra5 : w7.cell? ⟨gA, 5, none⟩ = some (.slice A9 fln c9) := BA7.out.cell 5
                    have rb5 : w7.cell? ⟨gB, 5, none⟩ = some (.slice A10 fln c10) := BB7.out.cell 5
                    have ra6 : w7.cell? ⟨gA, 6, none⟩ = some (.int .i64 F.left) := BA7.out.cell 6
                    have rb6 : w7.cell? ⟨gB, 6, none⟩ = some (.int .i64 F.left) := BB7.out.cell 6
                    go_wp2_with fail
                    clear ra0 rb0 ra1 rb1 ra2 rb2 ra3 rb3 ra4 rb4 ra5 rb5 ra6 rb6
                    refine SFN.out.mono ?_
                    rintro e w8 ⟨rfl, x8⟩
                    have BA8 := hid (BA7.out.ext x8)
                    have O8 := hid (O7.out.ext x8)
                    have D8 := hid (D7.out.ext x8)
                    clear x8 SFN BA7 BB7 O7 R7 D7
                    go_wp2_with fail
                    go_loopw [21] (fun iv wr => OvRel w8 base A9 fln c9 iv wr) (fun iv _ => fln - (intOf iv).toNat)
                    case atStart => exact ⟨0, _, Nat.zero_le _, rfl, O8.out, Shy.refl _⟩
                    case round =>
                      obtain ⟨j, xs, hj, rfl, ov, xv⟩ := hrel
                      have y4 : wr.cell? ⟨gA, 5, none⟩ = some (.slice A9 fln c9) := (BA8.out.shy xv (fun e => own_apart O8.out BA8.out (by decide) _ e rfl)).cell 5
                      have hnc : fln ≤ c9 := O8.out.rd.cap.1
                      have hj0 : (0 : Int) ≤ (j : Int) := by omega
                      have hnn : fln ≤ 9223372036854775807 := O8.out.rd.n_le
                      by_cases hjl : j < fln
                      · have j2 : (j : Int) < (fln : Int) := by omega
                        obtain ⟨g8, hg8, hb8, _⟩ := ov.head (by omega)
                        obtain ⟨b', o', hA', _, hcell⟩ := ov.rd.at_ hjl
                        have e8 := hA'.symm.trans hg8
                        simp only [Option.some.injEq, Addr.mk.injEq] at e8
                        obtain ⟨rfl, rfl, _⟩ := e8
                        rw [Nat.zero_add] at hcell
                        have fz := ov.frozen hg8 j
                        have OV := hid (ov.set (k := j) (by omega) (v := .string { data := #[111, 118, 101, 114] }) ⟨_, rfl⟩ hg8)
                        have XV := hid (xv.set (b := b') (fun _ => by rw [hg8]; rfl) j (.string { data := #[111, 118, 101, 114] }))
                        obtain ⟨vv, hvv⟩ : ∃ vv, xs.getD j undef = vv := ⟨_, rfl⟩
                        rw [hvv] at hcell
                        rw [hg8] at y4
                        have HG8 := hid hg8
                        clear ov xv hvv hg8 hA'
                        have HA8 := HG8.out
                        subst HA8
                        go_wp2_with fail
                        go_roundw
                        case rel => exact ⟨j + 1, _, by omega, by go_num, OV.out, XV.out⟩
                        case measure => simp [intOf]; omega
                      · have j2 : ¬ (j : Int) < (fln : Int) := by omega
                        have XV := hid xv
                        clear ov xv
                        go_wp2_with fail
                        go_meet
                        exact ⟨G.1, (D8.out.off XV.out (fun k e => List.mem_append.2 (.inl (by rw [e]; simp))) (fun k e => (O8.out.lt k e).1)).less (by intro k hk; simp at hk; simp [hk])⟩
            · have q4 : (pk == 4) = false := by simp; omega
              have q5 : (pk == 5) = false := by simp; omega
              have q6 : (pk == 6) = false := by simp; omega
              clear pg
              by_cases p7 : pk = 7
              · have q7 : (pk == 7) = true := by simpa using p7
                clear p7
                as_aux_lemma =>
                  have CS := fun W (d : DuoB w [gx] base W gc gw most s s) => b_csweep d m.a.now
                  obtain ⟨SG, hSG⟩ : ∃ SG, sweepG s m.a.now = SG := ⟨_, rfl⟩
                  simp only [hSG, pt] at CS
                  have RS := fun W (d : DuoB w [gx] base W gc gw most SG.1 s) => b_rsweep (t := s) (at_ := m.a.now) (by rw [hSG]; exact d)
                  simp only [hSG, pt] at RS
                  have CS := hid CS
                  have RS := hid RS
                  clear hSG
                  have KEEP : Hid (∀ W, Blk W gx 52 #[.int .i64 m.a.kind, .int .i64 m.a.now, .int .i64 m.a.rank, .int .i64 m.a.type, .int .i64 m.a.ttl, .string xn, .string xsn, .int .i64 m.a.s.ty, .int .i64 m.a.s.cl, .int .i64 m.a.s.ttl, .slice m.A xl m.d] → W.cell? ⟨gx, 1, none⟩ = some (.int .i64 m.a.now)) := hid (fun W h => h.cell 1)
                  go_upto_region 42 with (fail)
                  refine wp_region_noPanic ?_
                  refine region_E (S := fun W => W.cell? ⟨gx, 1, none⟩ = some (.int .i64 m.a.now)) 8 (by kernel_rfl) (by kernel_rfl) (by kernel_rfl) ?_
                  refine EG_take 0 (v := ?v17) (by simp only [lga, lgb, lgc]; rfl) (by kernel_rfl) (by kernel_rfl) (by decide) (fun _ _ _ h => h) (Or.inl ⟨by rfl, ?hy17⟩) (KEEP.out _ (BX.out.ext (ext_drew _))) ?rest17
                  case hy17 => intro W hSW; (try dsimp only at hSW); obtain e0 := hSW; go_simp <;> with_reducible rfl
                  try simp only [Act.put, lsa, lsb, lsc]
                  refine EG_take 1 (v := ?v18) (by simp only [lga, lgb, lgc]; rfl) (by kernel_rfl) (by kernel_rfl) (by decide) (fun _ _ _ h => h) (Or.inl ⟨by rfl, ?hy18⟩) (KEEP.out _ (BX.out.ext (ext_drew _))) ?rest18
                  case hy18 => intro W hSW; (try dsimp only at hSW); obtain e0 := hSW; go_simp <;> with_reducible rfl
                  try simp only [Act.put, lsa, lsb, lsc]
                  refine EG_take 2 (v := ?v19) (by simp only [lga, lgb, lgc]; rfl) (by kernel_rfl) (by kernel_rfl) (by decide) (fun _ _ _ h => h) (Or.inl ⟨by rfl, ?hy19⟩) (KEEP.out _ (BX.out.ext (ext_drew _))) ?rest19
                  case hy19 => intro W hSW; (try dsimp only at hSW); obtain e0 := hSW; go_simp <;> with_reducible rfl
                  try simp only [Act.put, lsa, lsb, lsc]
                  refine EG_take 4 (v := ?v20) (by simp only [lga, lgb, lgc]; rfl) (by kernel_rfl) (by kernel_rfl) (by decide) (fun _ _ _ h => h) (Or.inl ⟨by rfl, ?hy20⟩) (KEEP.out _ (BX.out.ext (ext_drew _))) ?rest20
                  case hy20 => intro W hSW; (try dsimp only at hSW); obtain e0 := hSW; go_simp <;> with_reducible rfl
                  try simp only [Act.put, lsa, lsb, lsc]
                  refine EG_take 5 (v := ?v21) (by simp only [lga, lgb, lgc]; rfl) (by kernel_rfl) (by kernel_rfl) (by decide) (fun _ _ _ h => h) (Or.inl ⟨by rfl, ?hy21⟩) (KEEP.out _ (BX.out.ext (ext_drew _))) ?rest21
                  case hy21 => intro W hSW; (try dsimp only at hSW); obtain e0 := hSW; go_simp <;> with_reducible rfl
                  try simp only [Act.put, lsa, lsb, lsc]
                  refine EG_take 6 (v := ?v22) (by simp only [lga, lgb, lgc]; rfl) (by kernel_rfl) (by kernel_rfl) (by decide) (fun _ _ _ h => h) (Or.inl ⟨by rfl, ?hy22⟩) (KEEP.out _ (BX.out.ext (ext_drew _))) ?rest22
                  case hy22 => intro W hSW; (try dsimp only at hSW); obtain e0 := hSW; go_simp <;> with_reducible rfl
                  try simp only [Act.put, lsa, lsb, lsc]
                  refine EG_one 3 (by kernel_rfl) (by simp only [lga, lgb, lgc]; rfl) (by decide) ?_
                  intro K hK0
                  have hK := hid hK0
                  clear hK0
                  go_simp
                  refine (CS.out _ (DP.out.ext (ext_drew _))).mono ?_
                  rintro e w3 ⟨rfl, d3, x3⟩
                  have B3 := hid (blk_out (BX.out.ext (ext_drew _)) x3 (by simp))
                  have D3 := hid d3
                  clear d3 x3
                  go_simp
                  refine hK.out _ _ (KEEP.out _ B3.out) ?_
                  clear hK K
                  try simp only [Act.put, lsa, lsb, lsc]
                  refine EG_one 7 (by kernel_rfl) (by simp only [lga, lgb, lgc]; rfl) (by decide) ?_
                  intro K hK0
                  have hK := hid hK0
                  clear hK0
                  go_simp
                  refine (RS.out _ D3.out).mono ?_
                  rintro e w4 ⟨rfl, d4, x4⟩
                  have B4 := hid (blk_out B3.out x4 (by simp))
                  have D4 := hid d4
                  clear d4 x4
                  go_simp
                  refine hK.out _ _ (KEEP.out _ B4.out) ?_
                  clear hK K
                  try simp only [Act.put, lsa, lsb, lsc]
                  refine EG_end (by kernel_rfl) (by simp only [lga, lgb, lgc]; rfl) ?_
                  intro K hK0
                  have hK := hid hK0
                  clear hK0
                  go_simp
                  refine hK.out _ _ ?_
                  clear hK K
                  refine NoPanic.normal ?_
                  go_wp2_with fail
                  go_meet
                  exact ⟨SG.1, D4.out⟩
              · have q7 : (pk == 7) = false := by simpa using p7
                clear p7
                have k6 : wp.cell? ⟨gx, 6, none⟩ = some (.string xsn) := BX.out.cell 6
                have k7 : wp.cell? ⟨gx, 7, none⟩ = some (.int .i64 m.a.s.ty) := BX.out.cell 7
                have k8 : wp.cell? ⟨gx, 8, none⟩ = some (.int .i64 m.a.s.cl) := BX.out.cell 8
                have k9 : wp.cell? ⟨gx, 9, none⟩ = some (.int .i64 m.a.s.ttl) := BX.out.cell 9
                have k10 : wp.cell? ⟨gx, 10, none⟩ = some (.slice m.A xl m.d) := BX.out.cell 10
                obtain ⟨ws, hws⟩ : ∃ ws, wp.alloc (.cells #[.string xsn, .int .i64 m.a.s.ty, .int .i64 m.a.s.cl, .int .i64 m.a.s.ttl, .slice m.A xl m.d] 30) = ws := ⟨_, rfl⟩
                obtain ⟨gs, hgs⟩ : ∃ gs, wp.heap.size = gs := ⟨_, rfl⟩
                have xs := ext_alloc wp (.cells #[.string xsn, .int .i64 m.a.s.ty, .int .i64 m.a.s.cl, .int .i64 m.a.s.ttl, .slice m.A xl m.d] 30)
                have bs := Blk.new wp 30 #[.string xsn, .int .i64 m.a.s.ty, .int .i64 m.a.s.cl, .int .i64 m.a.s.ttl, .slice m.A xl m.d]
                rw [hws] at xs bs
                rw [hgs] at bs
                have DS := hid (DP.out.alloc _ hws hgs)
                have BS := hid bs
                have BXS := hid (BX.out.ext xs)
                have HGXS := hid (show gx < gs from by have := BX.out.lt; omega)
                have HBGS := hid (show base ≤ gs from by have := DP.out.2.2.2.1; omega)
                clear bs xs
                obtain ⟨wq, hwq⟩ : ∃ wq, ws.alloc (.cells #[] 9) = wq := ⟨_, rfl⟩
                obtain ⟨gq, hgq⟩ : ∃ gq, ws.heap.size = gq := ⟨_, rfl⟩
                have xq : Ext ws wq := by rw [← hwq]; exact ext_alloc _ _
                obtain ⟨i0, hi0, hz0, hz1, hz2⟩ := info_parts info_t
                have dst : OwnG isT wq ws.heap.size 9 1 (some ⟨gq, 0, none⟩) 0 0 [] := by
                  have := OwnG.new (ok := isT) (base := ws.heap.size) (size := 1) (e := 9) ws [] 0 0 (Nat.le_refl _) (by simp) (Nat.le_refl _) (by simp [maxLen]) (by simp)
                  rw [← hwq, ← hgq]
                  simpa using this
                have SRC : Hid (RdG wq 1 m.A xl m.d (tvs m.a.s.data)) := hid (by have := RT.out.1.ext (ext_trans DS.out.2.1 xq); rw [HXL.out] at this; exact this)
                have q10 : wq.cell? ⟨gx, 10, none⟩ = some (.slice m.A xl m.d) := (BXS.out.ext xq).cell 10
                have DST := hid dst
                have XQ := hid xq
                have hxl9 : xl ≤ 70 := by have := SMM.out.2.2.1; have := HXL.out; omega
                clear dst xq
                go_upto_region 18 with (at_builtin; go_must (refine wpList_append_g (ok := isT) rfl (.tmp 73) (.tmp 76) 28 rfl ws.heap.size 9 i0 (.string ⟨#[]⟩) 1 16 Try.underlying28 hi0 hz0 hz1 hz2 rfl (by decide) (by simp [Value.cells]; exact ⟨⟨#[]⟩, rfl⟩) (fun _ h => h.one) rfl DST.out rfl SRC.out (isT_tvs m.a.s.data) (by omega) (by unfold maxLen; omega) XQ.out.size ?_; intro A8 c8 w8 o8 g8 n8; rw [show 0 + xl = xl from by omega, List.nil_append] at o8; rw [show 0 + xl = xl from by omega]; have O8 := hid o8; have X8 : Hid (Ext ws w8) := hid (below_of_grown XQ.out XQ.out.size g8 (fun q hq => (DST.out.lt q hq).1)); have bf := (BS.out.ext X8.out).frozen; have b4 := (BS.out.ext X8.out).cell 4; simp at b4; clear o8 g8 n8 q10 hwq hgq))
                clear bf b4 k6 k7 k8 k9 k10 hws hgs
                have s9 := set_shy gs 4 (.slice A8 xl c8) w8
                have b9 : Blk (w8.setCell ⟨gs, 4, none⟩ (.slice A8 xl c8)) gs 30 #[.string xsn, .int .i64 m.a.s.ty, .int .i64 m.a.s.cl, .int .i64 m.a.s.ttl, .slice A8 xl c8] := by
                  have := (BS.out.ext X8.out).set_ 4 (.slice A8 xl c8)
                  simpa using this
                have hl8 : ∀ k, blk A8 = some k → ¬ k = gs := fun k hk e => by have h1 := (O8.out.lt k hk).1; have h2 := BS.out.lt; omega
                have d9 := (DS.out.more X8.out (A := A8) (fun k hk => O8.out.lt k hk)).off s9 (fun k e => by rw [e]; simp) (fun k e => by rw [e]; exact HBGS.out)
                have bx9 := (BXS.out.ext X8.out).shy s9 (fun e => by have := HGXS.out; omega)
                have o9 := (s9.ownG O8.out hl8).mono DS.out.2.2.2.1
                obtain ⟨w9, hw9⟩ : ∃ w9, w8.setCell ⟨gs, 4, none⟩ (.slice A8 xl c8) = w9 := ⟨_, rfl⟩
                rw [hw9] at b9 d9 bx9 o9 ⊢
                have B9 := hid b9
                have D9 := hid d9
                have BX9 := hid bx9
                have O9 := hid o9
                clear s9 b9 d9 bx9 o9 hl8 hw9 DST XQ SRC BS DS BXS O8 X8
                as_aux_lemma =>
                  have CP := b_cput D9.out (x := m.a.s) (A := A8) (c := c8) (rank := m.a.rank) (at_ := m.a.now) (by rw [HXL.out]; exact O9.out.rd) (by have := SMM.out.2.1; omega) (fun d hd => by have := SMM.out.2.2.2 d hd; omega) (fun _ k hk => .inr (List.mem_append.2 (.inl (by rw [hk]; simp))))
                  obtain ⟨PG, hPG⟩ : ∃ PG, putG most s m.a.s m.a.rank m.a.now = PG := ⟨_, rfl⟩
                  simp only [hPG, pt, HXS.out, HXL.out] at CP
                  have CP := hid CP
                  have HPG := hid hPG
                  clear hPG
                  have s0 : w9.cell? ⟨gs, 0, none⟩ = some (.string xsn) := B9.out.cell 0
                  have s1 : w9.cell? ⟨gs, 1, none⟩ = some (.int .i64 m.a.s.ty) := B9.out.cell 1
                  have s2 : w9.cell? ⟨gs, 2, none⟩ = some (.int .i64 m.a.s.cl) := B9.out.cell 2
                  have s3 : w9.cell? ⟨gs, 3, none⟩ = some (.int .i64 m.a.s.ttl) := B9.out.cell 3
                  have s4 : w9.cell? ⟨gs, 4, none⟩ = some (.slice A8 xl c8) := B9.out.cell 4
                  have k1 : w9.cell? ⟨gx, 1, none⟩ = some (.int .i64 m.a.now) := BX9.out.cell 1
                  have k2 : w9.cell? ⟨gx, 2, none⟩ = some (.int .i64 m.a.rank) := BX9.out.cell 2
                  go_wp2_with fail
                  clear s0 s1 s2 s3 s4 k1 k2
                  refine CP.out.mono ?_
                  rintro e w10 ⟨rfl, d10, x10⟩
                  have B10 := hid (blk_out B9.out x10 (by simp))
                  have BX10 := hid (blk_out BX9.out x10 (by simp))
                  have O10 := hid (x10.ownG O9.out (fun k hk u => u.2 (List.mem_append.2 (.inl (by rw [hk]; simp)))))
                  have RP := b_rput (t := s) (x := m.a.s) (rank := m.a.rank) (at_ := m.a.now) (by rw [HPG.out]; exact d10) (A := m.A) (c := m.d) (RT.out.1.ext d10.2.1) (by have := SMM.out.2.1; omega) (fun d hd => by have := SMM.out.2.2.2 d hd; omega) (fun h k hk => .inl (by
                    obtain ⟨b1, e1, e2⟩ := RT.out.1.lt h
                    rw [hk] at e1
                    obtain rfl := Option.some.inj e1
                    have := d10.2.2.1
                    omega))
                  simp only [HPG.out, pt, HXS.out, HXL.out] at RP
                  have RP := hid RP
                  clear d10 x10 CP B9 BX9 D9
                  have k1 : w10.cell? ⟨gx, 1, none⟩ = some (.int .i64 m.a.now) := BX10.out.cell 1
                  have k2 : w10.cell? ⟨gx, 2, none⟩ = some (.int .i64 m.a.rank) := BX10.out.cell 2
                  have k6 : w10.cell? ⟨gx, 6, none⟩ = some (.string xsn) := BX10.out.cell 6
                  have k7 : w10.cell? ⟨gx, 7, none⟩ = some (.int .i64 m.a.s.ty) := BX10.out.cell 7
                  have k8 : w10.cell? ⟨gx, 8, none⟩ = some (.int .i64 m.a.s.cl) := BX10.out.cell 8
                  have k9 : w10.cell? ⟨gx, 9, none⟩ = some (.int .i64 m.a.s.ttl) := BX10.out.cell 9
                  have k10 : w10.cell? ⟨gx, 10, none⟩ = some (.slice m.A xl m.d) := BX10.out.cell 10
                  go_wp2_with fail
                  clear k1 k2 k6 k7 k8 k9 k10
                  refine RP.out.mono ?_
                  rintro e w11 ⟨rfl, d11, x11⟩
                  have B11 := hid (blk_out B10.out x11 (by simp))
                  have BX11 := hid (blk_out BX10.out x11 (by simp))
                  have O11 := hid (x11.ownG O10.out (fun k hk u => u.2 (List.mem_append.2 (.inl (by rw [hk]; simp)))))
                  have D11 := hid d11
                  have SS := same_set (w := w11) (s := m.a.s) (A := A8) (B := m.A) (ca := c8) (cb := m.d) (by rw [HXL.out]; exact O11.out.rd) (RT.out.1.ext d11.2.1) (by have := SMM.out.2.2.1; omega)
                  simp only [HXS.out, HXL.out] at SS
                  have SS := hid SS
                  clear d11 x11 RP B10 BX10 O10
                  have s0 : w11.cell? ⟨gs, 0, none⟩ = some (.string xsn) := B11.out.cell 0
                  have s1 : w11.cell? ⟨gs, 1, none⟩ = some (.int .i64 m.a.s.ty) := B11.out.cell 1
                  have s2 : w11.cell? ⟨gs, 2, none⟩ = some (.int .i64 m.a.s.cl) := B11.out.cell 2
                  have s3 : w11.cell? ⟨gs, 3, none⟩ = some (.int .i64 m.a.s.ttl) := B11.out.cell 3
                  have s4 : w11.cell? ⟨gs, 4, none⟩ = some (.slice A8 xl c8) := B11.out.cell 4
                  have k6 : w11.cell? ⟨gx, 6, none⟩ = some (.string xsn) := BX11.out.cell 6
                  have k7 : w11.cell? ⟨gx, 7, none⟩ = some (.int .i64 m.a.s.ty) := BX11.out.cell 7
                  have k8 : w11.cell? ⟨gx, 8, none⟩ = some (.int .i64 m.a.s.cl) := BX11.out.cell 8
                  have k9 : w11.cell? ⟨gx, 9, none⟩ = some (.int .i64 m.a.s.ttl) := BX11.out.cell 9
                  have k10 : w11.cell? ⟨gx, 10, none⟩ = some (.slice m.A xl m.d) := BX11.out.cell 10
                  go_wp2_with fail
                  clear s0 s1 s2 s3 s4 k6 k7 k8 k9 k10
                  refine SS.out.mono ?_
                  rintro e w12 ⟨rfl, x12⟩
                  have B12 := hid (B11.out.ext x12)
                  have O12 := hid (O11.out.ext x12)
                  have D12 := hid (D11.out.ext x12)
                  clear x12 SS B11 BX11 O11 D11
                  go_wp2_with fail
                  go_loopw [27] (fun iv wr => OvRel w12 base A8 xl c8 iv wr) (fun iv _ => xl - (intOf iv).toNat)
                  case atStart => exact ⟨0, _, Nat.zero_le _, rfl, O12.out, Shy.refl _⟩
                  case round =>
                    obtain ⟨j, xs, hj, rfl, ov, xv⟩ := hrel
                    have y4 : wr.cell? ⟨gs, 4, none⟩ = some (.slice A8 xl c8) := (B12.out.shy xv (fun e => own_apart O12.out B12.out (by decide) _ e rfl)).cell 4
                    have hnc : xl ≤ c8 := O12.out.rd.cap.1
                    have hj0 : (0 : Int) ≤ (j : Int) := by omega
                    have hnn : xl ≤ 9223372036854775807 := O12.out.rd.n_le
                    by_cases hjl : j < xl
                    · have j2 : (j : Int) < (xl : Int) := by omega
                      obtain ⟨g8, hg8, hb8, _⟩ := ov.head (by omega)
                      obtain ⟨b', o', hA', _, hcell⟩ := ov.rd.at_ hjl
                      have e8 := hA'.symm.trans hg8
                      simp only [Option.some.injEq, Addr.mk.injEq] at e8
                      obtain ⟨rfl, rfl, _⟩ := e8
                      rw [Nat.zero_add] at hcell
                      have fz := ov.frozen hg8 j
                      have OV := hid (ov.set (k := j) (by omega) (v := .string { data := #[111, 118, 101, 114] }) ⟨_, rfl⟩ hg8)
                      have XV := hid (xv.set (b := b') (fun _ => by rw [hg8]; rfl) j (.string { data := #[111, 118, 101, 114] }))
                      obtain ⟨vv, hvv⟩ : ∃ vv, xs.getD j undef = vv := ⟨_, rfl⟩
                      rw [hvv] at hcell
                      rw [hg8] at y4
                      have HG8 := hid hg8
                      clear ov xv hvv hg8 hA'
                      have HA8 := HG8.out
                      subst HA8
                      go_wp2_with fail
                      go_roundw
                      case rel => exact ⟨j + 1, _, by omega, by go_num, OV.out, XV.out⟩
                      case measure => simp [intOf]; omega
                    · have j2 : ¬ (j : Int) < (xl : Int) := by omega
                      have XV := hid xv
                      clear ov xv
                      go_wp2_with fail
                      go_meet
                      exact ⟨PG.1, (D12.out.off XV.out (fun k e => List.mem_append.2 (.inl (by rw [e]; simp))) (fun k e => (O12.out.lt k e).1)).less (by simp)⟩
        case rest =>
          obtain ⟨s', d'⟩ := hcut
          obtain ⟨wm, hwm⟩ : ∃ wm, wm = wc := ⟨_, rfl⟩
          subst hwm
          as_aux_lemma =>
            obtain ⟨A8, c8, e8, e9, e10, e11, e12⟩ := d_rlen d'.1
            obtain ⟨ll, hll⟩ : ∃ ll, s'.L.length = ll := ⟨_, rfl⟩
            obtain ⟨hv, hhv⟩ : ∃ hv, hasS s' nl kind = hv := ⟨_, rfl⟩
            have CL := fun W (x : Ext wm W) => d_clen (d'.1.ext x (fun k h => .inl h))
            have CH := fun W (x : Ext wm W) => d_has (d'.1.ext x (fun k h => .inl h)) (n := nl) (kind := kind) HL2.out HK.out
            have CA := fun W (x : Ext wm W) => d_at (d'.1.ext x (fun k h => .inl h)) (n := nl) (kind := kind) HL2.out
            simp only [hll, pt] at CL
            simp only [hhv, pt, HNL.out] at CH
            simp only [pt, HNL.out] at CA
            rw [hll] at e8 e9 e12
            have KEEP : Hid (∀ W, Ext wm W → W.cell? ⟨gw, 1, none⟩ = some (.slice A8 ll c8)) := hid (fun W y => (y.cell (p := ⟨gw, 1, none⟩) e11).trans e8)
            have D9 := hid d'
            have CL := hid CL
            have CH := hid CH
            have CA := hid CA
            have HHV := hid hhv
            clear d' e8 e10 e11 hll hhv
            go_upto_region 44 with (fail)
            refine wp_region_noPanic ?_
            refine region_E (S := fun W => W.cell? ⟨gw, 1, none⟩ = some (.slice A8 ll c8)) 19 (by kernel_rfl) (by kernel_rfl) (by kernel_rfl) ?_
            refine EG_take 0 (v := ?v1) (by simp only [lga, lgb, lgc]; rfl) (by kernel_rfl) (by kernel_rfl) (by decide) (fun _ _ _ h => h) (Or.inl ⟨by rfl, ?hy1⟩) (KEEP.out _ (ext_drew _)) ?rest1
            case hy1 => intro W hSW; (try dsimp only at hSW); obtain e0 := hSW; go_simp <;> with_reducible rfl
            try simp only [Act.put, lsa, lsb, lsc]
            refine EG_take 2 (v := ?v2) (by simp only [lga, lgb, lgc]; rfl) (by kernel_rfl) (by kernel_rfl) (by decide) (fun _ _ _ h => h) (Or.inl ⟨by rfl, ?hy2⟩) (KEEP.out _ (ext_drew _)) ?rest2
            case hy2 => intro W hSW; (try dsimp only at hSW); obtain e0 := hSW; go_simp <;> with_reducible rfl
            try simp only [Act.put, lsa, lsb, lsc]
            refine EG_take 3 (v := ?v3) (by simp only [lga, lgb, lgc]; rfl) (by kernel_rfl) (by kernel_rfl) (by decide) (fun _ _ _ h => h) (Or.inl ⟨by rfl, ?hy3⟩) (KEEP.out _ (ext_drew _)) ?rest3
            case hy3 => intro W hSW; (try dsimp only at hSW); obtain e0 := hSW; go_simp <;> with_reducible rfl
            try simp only [Act.put, lsa, lsb, lsc]
            refine EG_take 4 (v := ?v4) (by simp only [lga, lgb, lgc]; rfl) (by kernel_rfl) (by kernel_rfl) (by decide) (fun _ _ _ h => h) (Or.inl ⟨by rfl, ?hy4⟩) (KEEP.out _ (ext_drew _)) ?rest4
            case hy4 => intro W hSW; (try dsimp only at hSW); obtain e0 := hSW; go_simp <;> with_reducible rfl
            try simp only [Act.put, lsa, lsb, lsc]
            refine EG_take 5 (v := ?v5) (by simp only [lga, lgb, lgc]; rfl) (by kernel_rfl) (by kernel_rfl) (by decide) (fun _ _ _ h => h) (Or.inl ⟨by rfl, ?hy5⟩) (KEEP.out _ (ext_drew _)) ?rest5
            case hy5 => intro W hSW; (try dsimp only at hSW); obtain e0 := hSW; go_simp <;> with_reducible rfl
            try simp only [Act.put, lsa, lsb, lsc]
            refine EG_take 6 (v := ?v6) (by simp only [lga, lgb, lgc]; rfl) (by kernel_rfl) (by kernel_rfl) (by decide) (fun _ _ _ h => h) (Or.inl ⟨by rfl, ?hy6⟩) (KEEP.out _ (ext_drew _)) ?rest6
            case hy6 => intro W hSW; (try dsimp only at hSW); obtain e0 := hSW; go_simp <;> with_reducible rfl
            try simp only [Act.put, lsa, lsb, lsc]
            refine EG_one 1 (by kernel_rfl) (by simp only [lga, lgb, lgc]; rfl) (by decide) ?_
            intro K hK0
            have hK := hid hK0
            clear hK0
            go_simp
            refine (CL.out _ (ext_drew _)).mono ?_
            rintro e _ ⟨rfl, rfl⟩
            go_simp
            refine hK.out _ _ (KEEP.out _ (ext_drew _)) ?_
            clear hK K
            try simp only [Act.put, lsa, lsb, lsc]
            refine EG_take 7 (v := ?v7) (by simp only [lga, lgb, lgc]; rfl) (by kernel_rfl) (by kernel_rfl) (by decide) (fun _ _ _ h => h) (Or.inl ⟨by rfl, ?hy7⟩) (KEEP.out _ (ext_drew _)) ?rest7
            case hy7 => intro W hSW; (try dsimp only at hSW); obtain e0 := hSW; go_simp <;> with_reducible rfl
            try simp only [Act.put, lsa, lsb, lsc]
            refine EG_take 8 (v := ?v8) (by simp only [lga, lgb, lgc]; rfl) (by kernel_rfl) (by kernel_rfl) (by decide) (fun _ _ _ h => h) (Or.inl ⟨by rfl, ?hy8⟩) (KEEP.out _ (ext_drew _)) ?rest8
            case hy8 => intro W hSW; (try dsimp only at hSW); obtain e0 := hSW; go_simp <;> with_reducible rfl
            try simp only [Act.put, lsa, lsb, lsc]
            refine EG_take 9 (v := ?v9) (by simp only [lga, lgb, lgc]; rfl) (by kernel_rfl) (by kernel_rfl) (by decide) (fun _ _ _ h => h) (Or.inl ⟨by rfl, ?hy9⟩) (KEEP.out _ (ext_drew _)) ?rest9
            case hy9 => intro W hSW; (try dsimp only at hSW); obtain e0 := hSW; go_simp <;> with_reducible rfl
            try simp only [Act.put, lsa, lsb, lsc]
            refine EG_take 10 (v := ?v10) (by simp only [lga, lgb, lgc]; rfl) (by kernel_rfl) (by kernel_rfl) (by decide) (fun _ _ _ h => h) (Or.inl ⟨by rfl, ?hy10⟩) (KEEP.out _ (ext_drew _)) ?rest10
            case hy10 => intro W hSW; (try dsimp only at hSW); obtain e0 := hSW; go_simp <;> with_reducible rfl
            try simp only [Act.put, lsa, lsb, lsc]
            refine EG_take 11 (v := ?v11) (by simp only [lga, lgb, lgc]; rfl) (by kernel_rfl) (by kernel_rfl) (by decide) (fun _ _ _ h => h) (Or.inl ⟨by rfl, ?hy11⟩) (KEEP.out _ (ext_drew _)) ?rest11
            case hy11 => intro W hSW; (try dsimp only at hSW); obtain e0 := hSW; go_simp <;> with_reducible rfl
            try simp only [Act.put, lsa, lsb, lsc]
            refine EG_take 13 (v := ?v12) (by simp only [lga, lgb, lgc]; rfl) (by kernel_rfl) (by kernel_rfl) (by decide) (fun _ _ _ h => h) (Or.inl ⟨by rfl, ?hy12⟩) (KEEP.out _ (ext_drew _)) ?rest12
            case hy12 => intro W hSW; (try dsimp only at hSW); obtain e0 := hSW; go_simp <;> with_reducible rfl
            try simp only [Act.put, lsa, lsb, lsc]
            refine EG_take 14 (v := ?v13) (by simp only [lga, lgb, lgc]; rfl) (by kernel_rfl) (by kernel_rfl) (by decide) (fun _ _ _ h => h) (Or.inl ⟨by rfl, ?hy13⟩) (KEEP.out _ (ext_drew _)) ?rest13
            case hy13 => intro W hSW; (try dsimp only at hSW); obtain e0 := hSW; go_simp <;> with_reducible rfl
            try simp only [Act.put, lsa, lsb, lsc]
            refine EG_take 15 (v := ?v14) (by simp only [lga, lgb, lgc]; rfl) (by kernel_rfl) (by kernel_rfl) (by decide) (fun _ _ _ h => h) (Or.inl ⟨by rfl, ?hy14⟩) (KEEP.out _ (ext_drew _)) ?rest14
            case hy14 => intro W hSW; (try dsimp only at hSW); obtain e0 := hSW; go_simp <;> with_reducible rfl
            try simp only [Act.put, lsa, lsb, lsc]
            refine EG_one 12 (by kernel_rfl) (by simp only [lga, lgb, lgc]; rfl) (by decide) ?_
            intro K hK0
            have hK := hid hK0
            clear hK0
            go_simp
            refine (CH.out _ (ext_drew _)).mono ?_
            rintro e w12 ⟨rfl, x12⟩
            have X12 := hid (ext_trans (ext_drew wm) x12)
            clear x12
            go_simp
            refine hK.out _ _ (KEEP.out _ X12.out) ?_
            clear hK K
            try simp only [Act.put, lsa, lsb, lsc]
            refine EG_one 16 (by kernel_rfl) (by simp only [lga, lgb, lgc]; rfl) (by decide) ?_
            intro K hK0
            have hK := hid hK0
            clear hK0
            go_simp
            refine (CA.out _ X12.out).mono ?_
            rintro e w13 ⟨v, rfl, hvv, x13⟩
            have X13 := hid (ext_trans X12.out x13)
            replace hvv : decide (0 ≤ v) = hv := hvv.trans HHV.out
            clear x13
            go_simp
            refine hK.out _ _ (KEEP.out _ X13.out) ?_
            clear hK K
            try simp only [Act.put, lsa, lsb, lsc]
            refine EG_take 17 (v := ?v15) (by simp only [lga, lgb, lgc]; rfl) (by kernel_rfl) (by kernel_rfl) (by decide) (fun _ _ _ h => h) (Or.inl ⟨by rfl, ?hy15⟩) (KEEP.out _ X13.out) ?rest15
            case hy15 => intro W hSW; (try dsimp only at hSW); obtain e0 := hSW; go_simp <;> with_reducible rfl
            try simp only [Act.put, lsa, lsb, lsc]
            refine EG_take 18 (v := ?v16) (by simp only [lga, lgb, lgc]; rfl) (by kernel_rfl) (by kernel_rfl) (by decide) (fun _ _ _ h => h) (Or.inl ⟨by rfl, ?hy16⟩) (KEEP.out _ X13.out) ?rest16
            case hy16 => intro W hSW; (try dsimp only at hSW); obtain e0 := hSW; go_simp <;> with_reducible rfl
            try simp only [Act.put, lsa, lsb, lsc]
            refine EG_end (by kernel_rfl) (by simp only [lga, lgb, lgc]; rfl) ?_
            intro K hK0
            have hK := hid hK0
            clear hK0
            go_simp
            refine hK.out _ _ ?_
            clear hK K
            refine NoPanic.normal ?_
            have REL : Hid (ScRel w base gc gw most M (.int .i64 ((k : Int) + 1)) w13) := hid ⟨k + 1, s', by rw [HN.out]; exact hlt, by go_num, (D9.out.ext X13.out).less (by simp)⟩
            go_wp2_with fail
            go_roundw
            case rel => exact REL.out
            case measure => simp [intOf]; omega
      · have j1 : ¬ (k : Int) < (n : Int) := by omega
        have D9 := hid d
        clear d
        go_wp2_with fail
        refine (awake_yes _).mono ?_
        rintro e w9 ⟨rfl, y9⟩
        go_wp2_with fail
        go_ret
        exact ⟨rfl, ext_trans D9.out.2.1 y9⟩
end Go.Proofs.Ytcddfenhkljpeaa

/- WireBack: names that a packer tells, laid one behind the other with any bytes between, are read as they are. -/
import Derived.Test.YtfimfmghfjokjaaWirU
namespace Go.Proofs.Ytfimfmghfjokjaa
open Go.BK Go.RowKit Go.BK.NM
set_option linter.unusedVariables false

theorem BackRel.ext {w : World} {g mb b0 n k : Nat} {o a s : Value} {wr wr' : World} (h : BackRel w g mb b0 n k o a s wr) (x : Ext wr wr') : BackRel w g mb b0 n (k + 1) o a s wr' := by
  obtain ⟨T, e, B, P, A, A1, A2, c, c1, c2, h1, h2, h3, h4, h5, h6, h7, h8, h9, h10, h11, h12, h13, h14, h15, h16⟩ := h
  exact ⟨T, e, B, P, A, A1, A2, c, c1, c2, h1, h2, h3, by omega, by omega, by omega, h7, h8, h9, hid (h10.out.ext x), hid (h11.out.ext x), hid (h12.out.ext x), hid (h13.out.ext x), h14, Nat.le_trans h15 x.size, hid (below_ext h16.out h16.out.size x)⟩

set_option maxHeartbeats 8000000 in
set_option maxRecDepth 100000 in
theorem back_walk {A D : Option Addr} {n c cd : Nat} {Nm : Nat → ByteArray} {T : Nat → Int} {R : Nat → Bool} {m : List UInt8} (w : World) (hA : SActR w A n c Nm T R) (hD : Rd w D cd m) :
    Calls Try.prog 5 #[.slice A n c, .slice D m.length cd] w fun e w' => e = .returned (.bool true) ∧ Below w.heap.size w w' := by
  obtain ⟨i0, hi, hz0, hz1, hz2⟩ := info_parts info_u8
  obtain ⟨j0, ji, jz0, jz1, jz2⟩ := info_parts info_int
  obtain ⟨k0, ki, kz0, kz1, kz2⟩ := info_parts info_str
  have HSA := hid (fun W (h : Below w.heap.size w W) => hA.below h)
  have HSD := hid (fun W (h : Below w.heap.size w W) => hD.ext h)
  have CL := hid (fun W (h : Below w.heap.size w W) => long_any (hA.below h))
  have hn9 : n ≤ 9223372036854775807 := by have := hA.1; have := hA.2.1; unfold maxLen at *; omega
  have hc9 : c ≤ 9223372036854775807 := by have := hA.2.1; unfold maxLen at *; omega
  have hm9 := hD.n_le
  have hmc := hD.le
  have hcc := hD.c_le
  clear hA hD
  go_enter Try.func5, Try.ntmps5
  go_wp2_with fail
  (with_reducible refine (awake_yes _).mono ?_)
  rintro e w1 ⟨rfl, x1⟩
  have X1 := hid x1
  clear x1
  go_wp2_with fail
  (with_reducible refine (new_in _).mono ?_)
  rintro e w2 ⟨g, mb, rfl, p2, g2, m2, x2⟩
  have X2 := hid (ext_trans X1.out x2)
  have hg0 : w.heap.size ≤ g := by have := X1.out.size; omega
  have hm0 : w.heap.size ≤ mb := by have := X1.out.size; omega
  have hgl : g < w2.heap.size := p2.1.lt
  have hml : mb < w2.heap.size := p2.2.1.lt
  have P2 := hid p2
  clear p2 x2 g2 m2 X1
  go_wp2_with fail
  (with_reducible refine (CL.out _ X2.out).mono ?_)
  rintro e _ ⟨bb, rfl, hb, rfl⟩
  rcases bb with _ | _
  case true =>
    go_wp2_with fail
    go_ret
    exact ⟨rfl, X2.out⟩
  have hn60 := (hb rfl).1
  have HN := hid (hb rfl).2
  clear hb CL
  by_cases hbig : (1000 : Int) < (m.length : Int)
  · have hd : decide ((1000 : Int) < (m.length : Int)) = true := by rw [decide_eq_true_iff]; exact hbig
    go_wp2_with fail
    go_ret
    exact ⟨rfl, X2.out⟩
  have hd : decide ((1000 : Int) < (m.length : Int)) = false := by rw [decide_eq_false_iff_not]; exact hbig
  have hm1 : m.length ≤ 1000 := by omega
  obtain ⟨b0, hb0⟩ : ∃ b, b = w2.heap.size := ⟨_, rfl⟩
  have HB0 := hid hb0
  rw [← hb0] at hgl hml
  clear hb0 hbig
  go_wp2_with fail
  go_loopw [7, 8, 9, 10] (fun o a s i wr => ∃ k : Nat, k ≤ n ∧ i = .int .i64 k ∧ BackRel w g mb b0 n k o a s wr) (fun _ _ _ i _ => n - (intOf i).toNat)
  case atStart => exact ⟨0, Nat.zero_le _, rfl, [], 0, [], [], none, none, none, 0, 0, 0, rfl, rfl, rfl, by simp, by simp, by simp, by simp, hid (tailsIn_nil _), hid (laid_nil _), P2, hid (BK.Own.nil _ _ _), hid (OwnG.nil _ _ _ _ _), hid (OwnG.nil _ _ _ _ _), hid apart3_nil, by rw [HB0.out]; exact Nat.le_refl _, X2⟩
  case round =>
    obtain ⟨k, hk, rfl, HR0⟩ := hrel
    have HR := hid HR0
    by_cases hlt : k < n
    case neg =>
      obtain rfl : k = n := by omega
      obtain ⟨T0, e, B, P, Ab, A1, A2, cb, c1, c2, rfl, rfl, rfl, q1, q2, q3, q4, TI, LD, PW, OB, OA, ON, AP, hz, BW⟩ := HR0
      obtain ⟨wa, hwa⟩ : ∃ x, x = wr := ⟨_, rfl⟩
      subst hwa
      have hBl : B.length ≤ 1000000 := by omega
      have hPl : P.length ≤ 60 := by omega
      have hA9 := OA.out.rd.c_le
      have hN9 := ON.out.rd.c_le
      have hA8 := OA.out.rd.cap.1
      have hN8 := ON.out.rd.cap.1
      clear hlt hk HR HN HSA HSD TI PW AP q1 q2 q3 q4 X2 P2 HB0
      go_wp2_with fail
      go_loopw [13] (fun i wr' => ∃ j : Nat, j ≤ P.length ∧ i = .int .i64 j ∧ Hid (Ext wa wr')) (fun i _ => P.length - (intOf i).toNat)
      case atStart => exact ⟨0, Nat.zero_le _, rfl, hid (ext_refl _)⟩
      case round =>
        obtain ⟨j, hj, rfl, XX⟩ := hrel
        by_cases hjl : j < P.length
        case neg =>
          obtain rfl : j = P.length := by omega
          go_wp2_with fail
          go_ret
          exact ⟨rfl, below_ext BW.out BW.out.size XX.out⟩
        obtain ⟨p, hp⟩ : ∃ p, P[j] = p := ⟨_, rfl⟩
        obtain ⟨hok, hlen, nx, hst⟩ := LD.out p (by rw [← hp]; exact List.getElem_mem hjl)
        have hle := hst.le
        have RD := stands_read hst hok hlen
        obtain ⟨ba, oa, rfl, lta, ca⟩ := OA.out.rd.at_ hjl
        obtain ⟨bn, on, rfl, ltn, cn⟩ := ON.out.rd.at_ hjl
        have ea : (P.map atV).getD j undef = .int .i64 (p.1 : Int) := by rw [List.getD_eq_getElem?_getD, List.getElem?_map, List.getElem?_eq_getElem hjl, hp]; rfl
        have en : (P.map nmV).getD j undef = .string (str (wire p.2)) := by rw [List.getD_eq_getElem?_getD, List.getElem?_map, List.getElem?_eq_getElem hjl, hp]; rfl
        rw [ea] at ca
        rw [en] at cn
        obtain ⟨at_, hat⟩ : ∃ a, a = p.1 := ⟨_, rfl⟩
        rw [← hat] at ca RD hle
        have CR := hid (read_any (at_ : Int) (OB.out.ext XX.out).rd hBl (by omega) RD)
        simp only at CR
        obtain ⟨sn, hsn⟩ : ∃ s, s = str (wire p.2) := ⟨_, rfl⟩
        rw [← hsn] at cn CR
        have HCA := hid (fun W (hW : Ext wa W) => (show W.cell? ⟨ba, oa + j, none⟩ = some (.int .i64 (at_ : Int)) from (hW.cell (p := ⟨ba, oa + j, none⟩) lta).trans ca))
        have HCN := hid (fun W (hW : Ext wa W) => (show W.cell? ⟨bn, on + j, none⟩ = some (.string sn) from (hW.cell (p := ⟨bn, on + j, none⟩) ltn).trans cn))
        have ca0 := HCA.out _ XX.out
        clear hp hok hlen hst RD ea en hat hsn ca cn
        have i1 : (j : Int) < (P.length : Int) := by omega
        have z1 : decide (nx ≤ at_) = false := by rw [decide_eq_false_iff_not]; omega
        have z2 : decide (B.length < nx) = false := by rw [decide_eq_false_iff_not]; omega
        go_wp2_with fail
        (with_reducible refine CR.out.mono ?_)
        rintro ee w9 ⟨rfl, x9⟩
        have X9 := hid (ext_trans XX.out x9)
        obtain ⟨k0, k1, kf⟩ := (Blk.new w9 26 #[.int .i64 0, .int .i64 0]).two
        have X9' := hid (ext_trans X9.out (ext_alloc w9 (.cells #[.int .i64 0, .int .i64 0] 26)))
        have ca9 := HCA.out _ X9'.out
        have cn9 := HCN.out _ X9'.out
        clear x9 ca0
        go_wp2_with fail
        go_roundw
        case rel => exact ⟨j + 1, by omega, by go_num, X9'⟩
        case measure => simp [intOf]; omega
    obtain ⟨T0, e, B, P, Ab, A1, A2, cb, c1, c2, rfl, rfl, rfl, q1, q2, q3, q4, TI, LD, PW, OB, OA, ON, AP, hz, BW⟩ := HR0
    obtain ⟨bl, oo, rfl, hbl, s1, s2, s3, b1, b2⟩ := (HSA.out w (Below.refl _ _)).2.2 k hlt
    have hn4 := HN.out k hlt
    obtain ⟨nn, hnn⟩ : ∃ nn, Nm k = str nn := ⟨(Nm k).data.toList, by simp [str]⟩
    rw [hnn] at s1 hn4
    rw [str_size] at hn4
    obtain ⟨ti, hti⟩ : ∃ ti, T k = ti := ⟨_, rfl⟩
    rw [hti] at s2 b2
    have CC := hid (fun W => check_in nn W (by omega))
    have HC : Hid (∀ W, Below w.heap.size w W → W.cell? ⟨bl, oo + k * 3, none⟩ = some (.string (str nn)) ∧ W.cell? ⟨bl, oo + k * 3 + 1, none⟩ = some (.int .i64 ti)) := hid (fun W hW => ⟨(hW.cell hbl).trans s1, (hW.cell hbl).trans s2⟩)
    clear s1 s2 s3 b1 hnn hti
    obtain ⟨t1, t2⟩ := HC.out _ BW.out
    by_cases h0 : checkS nn = 0
    case neg =>
      obtain ⟨E, hE⟩ : ∃ E, checkS nn = E := ⟨_, rfl⟩
      rw [hE] at CC h0
      have z1 : (E != 0) = true := by simpa using h0
      clear hE h0
      clear q1 q2 q3 q4 TI LD PW OB OA ON AP t2 b2 HC
      go_wp2_with fail
      (with_reducible refine (CC.out _).mono ?_)
      rintro ee w3 ⟨rfl, x3⟩
      have HR3 := hid (HR.out.ext x3)
      clear x3
      go_wp2_with fail
      go_roundw
      case rel => exact ⟨k + 1, by omega, by go_num, HR3.out⟩
      case measure => simp [intOf]; omega
    rw [h0] at CC
    obtain ⟨Ls, hLs, hok, hlen⟩ : ∃ Ls, nn = wire Ls ∧ okL Ls ∧ (wire Ls).length ≤ 255 := by
      rcases labels_cases nn with ⟨hl, _⟩ | ⟨L, _, _, hl⟩ | ⟨L, hL, hlen, hl⟩
      · unfold checkS at h0; rw [hl] at h0; cases h0
      · unfold checkS at h0; rw [hl] at h0; cases h0
      · obtain ⟨rfl, hok⟩ := labS_some hL
        exact ⟨L, rfl, hok, hlen⟩
    have HL := hid (And.intro hLs (And.intro hok hlen))
    have HCK := hid h0
    have hp := pick_range ti ((m.length : Int) + 1) (by omega)
    obtain ⟨pv, hpv⟩ : ∃ pv : Nat, pick ti ((m.length : Int) + 1) = pv := ⟨_, (Int.toNat_of_nonneg hp.1).symm⟩
    rw [hpv] at hp
    have CP := hid (fun W => pick_any ti ((m.length : Int) + 1) W b2 (by omega))
    rw [hpv] at CP
    have hpm : pv ≤ m.length := by omega
    have hpc : pv ≤ cd := by omega
    clear hpv hp h0 hLs hok b2 hlen HR t2
    go_wp2_with fail
    (with_reducible refine (CC.out _).mono ?_)
    rintro ee w3 ⟨rfl, x3⟩
    have Y3 := hid (below_ext BW.out BW.out.size x3)
    have B3 := hid (OB.out.ext x3)
    have A3 := hid (OA.out.ext x3)
    have N3 := hid (ON.out.ext x3)
    have P3 := hid (PW.out.ext x3)
    have hz3 : b0 ≤ w3.heap.size := Nat.le_trans hz x3.size
    obtain ⟨t1, t2⟩ := HC.out _ Y3.out
    clear x3 OB OA ON PW BW
    go_wp2_with fail
    (with_reducible refine (CP.out _).mono ?_)
    rintro ee _ ⟨rfl, rfl⟩
    have ow := B3.out
    have rb := rd_take (HSD.out _ Y3.out) hpm
    have hw0 : w.heap.size ≤ b0 := by have := X2.out.size; have := HB0.out; omega
    go_wp2_with (at_builtin; first | ((with_reducible show wpList _ _ _ (⟨some 60, _, _, _, _, _⟩ :: _) _ _); go_must (refine wpList_append_g (by rfl) (.tmp 48) (.tmp 59) 22 rfl b0 5 i0 (.int .u8 0) 1 1 Try.underlying22 hi hz0 hz1 hz2 rfl (by decide) (by simp [Value.cells]; exact ⟨0, rfl⟩) (fun _ h => h.one) rfl ow rfl rb (isU8_map _) (by omega) (by unfold maxLen; omega) hz3 ?_; intro A4 c4 w4 o4 g4 y4; have Y4 := hid (Below.grown Y3.out g4 (Nat.le_trans hw0 hz3) (fun q hq => Nat.le_trans hw0 (ow.lt q hq).1)); obtain ⟨t3, t4⟩ := HC.out _ Y4.out; have B4 := hid (own_app (X := m.take pv) (by simp; omega) o4); have G4 := hid (A3.out.grown g4 (fun b hb e => ((AP.out.1 b e.symm).1) hb)); have N4 := hid (N3.out.grown g4 (fun b hb e => ((AP.out.1 b e.symm).2) hb)); have P4 := hid (pack_grown P3.out g4 (fun e => by have := (ow.lt _ e).1; omega) (fun e => by have := (ow.lt _ e).1; omega)); have AP4 := hid (AP.out.fst (new_blk y4) (fun b hb => (A3.out.lt b hb).2) (fun b hb => (N3.out.lt b hb).2)); have hz4 : b0 ≤ w4.heap.size := Nat.le_trans hz3 g4.size; clear o4 g4 y4)))
    clear ow rb t1 t2 t4 B3 A3 N3 P3 AP CP CC
    have hB4 : (B ++ m.take pv).length = B.length + pv := by simp; omega
    obtain ⟨M, hM⟩ : ∃ M, M = B ++ m.take pv := ⟨_, rfl⟩
    rw [← hM] at B4 hB4
    have TI4 := hid (TI.out.more (m.take pv))
    have LD4 := hid (LD.out.more (m.take pv))
    rw [← hM] at TI4 LD4
    clear hM TI LD
    obtain ⟨hLs, hok, hlen⟩ := HL.out
    by_cases hbig : 65535 < B.length + pv
    · have PK : packS T0 e ((B.length : Int) + (pv : Int)) nn = ([], 2, T0, e) := by
        unfold packS
        rw [if_neg (by simpa using HCK.out), if_pos (by omega)]
      clear hLs hok hlen
      (with_reducible refine (name_lit _ nn _ rfl P4.out (by omega) (by omega) PK 0 rfl).mono ?_)
      rintro ee w5 ⟨A5, c5, rfl, o5, p5, s5⟩
      have Y5 := hid (Y4.out.trans (s5.below Y4.out.size (fun k hk e => by omega)))
      clear o5 p5 s5 PK
      have z1 : decide ((65535 : Int) < (B.length : Int) + (pv : Int)) = true := by rw [decide_eq_true_iff]; omega
      go_wp2_with fail
      go_ret
      exact ⟨rfl, Y5.out⟩
    obtain ⟨R1, hR1⟩ : ∃ R, packL T0 M.length 0 Ls = R := ⟨_, rfl⟩
    have PK : packS T0 e ((B.length : Int) + (pv : Int)) nn = (R1.1, 0, T0 ++ R1.2, M.length + R1.1.length) := by
      have := pack_ok (T := T0) (e := e) (a := M.length) hok hlen (by omega) (by omega) hR1
      rw [← hLs, hB4, Int.natCast_add] at this
      rw [hB4]
      exact this
    have hxl := packL_len (T := T0) (at_ := M.length) Ls 0 hok
    have hxt := packL_count (T := T0) (at_ := M.length) Ls 0
    rw [hR1] at hxl hxt
    rw [← hLs] at hxl
    obtain ⟨ST1, ST2⟩ := back_step TI4.out hok hlen hR1
    have LD5 := hid (LD4.out.more R1.1)
    have LD6 := hid (LD5.out.snoc hok hlen ST2)
    have TI5 := hid ST1
    have hct : Ls.length ≤ nn.length := by rw [hLs]; exact wire_count Ls
    have hnl : nn.length ≤ 255 := by rw [hLs]; exact hlen
    clear ST1 ST2 TI4 LD4 LD5 hR1
    obtain ⟨xl, hxe⟩ : ∃ xl, R1.1.length = xl := ⟨_, rfl⟩
    rw [hxe] at hxl
    have hsz : (str nn).size = nn.length := str_size nn
    have HXE := hid hxe
    have HLS := hid hLs
    have L4 := hid (And.intro (fun b hb => (B4.out.lt b hb).2) (And.intro (fun b hb => (G4.out.lt b hb).2) (fun b hb => (N4.out.lt b hb).2)) : (∀ b, blk A4 = some b → b < w4.heap.size) ∧ (∀ b, blk A1 = some b → b < w4.heap.size) ∧ ∀ b, blk A2 = some b → b < w4.heap.size)
    clear hLs hok hlen HL HCK
    (with_reducible refine (name_lit _ nn _ rfl P4.out (by omega) (by omega) PK xl hxe).mono ?_)
    rintro ee w5 ⟨A5, c5, rfl, o5, p5, s5⟩
    have Y5 := hid (Y4.out.trans (s5.below Y4.out.size (fun k hk e => by omega)))
    have B5 := hid (keep_own B4.out s5 hgl hml)
    have G5 := hid (keep_g G4.out s5 hgl hml)
    have N5 := hid (keep_g N4.out s5 hgl hml)
    have X5 := hid o5
    have P5 := hid p5
    have hz5 : b0 ≤ w5.heap.size := Nat.le_trans hz4 s5.size
    obtain ⟨t5, _⟩ := HC.out _ Y5.out
    clear o5 p5 s5 PK B4 G4 N4 P4 Y4 t3 hxe
    have z1 : decide ((65535 : Int) < (B.length : Int) + (pv : Int)) = false := by rw [decide_eq_false_iff_not]; omega
    have z2 : decide ((str nn).size < xl) = false := by rw [decide_eq_false_iff_not]; omega
    have z3 : decide (((str nn).size : Int) < (xl : Int)) = false := by rw [decide_eq_false_iff_not]; omega
    have z4 : ((xl : Int) == 0) = false := by rw [beq_eq_false_iff_ne]; omega
    have oa := G5.out
    go_wp2_with (at_builtin; first | ((with_reducible show wpList _ _ _ (⟨some 103, _, _, _, _, _⟩ :: _) _ _); go_must (refine wpList_append_1' rfl (.tmp 99) (.tmp 102) 38 rfl b0 3 j0 (.int .i64 0) 8 Try.underlying38 ji jz0 jz1 jz2 rfl ⟨0, rfl⟩ (fun _ h => h.one) rfl oa (.int .i64 ((B.length : Int) + (pv : Int))) (by rfl) ⟨_, rfl⟩ (by omega) (by unfold maxLen; omega) hz5 ?_; intro A6 c6 w6 o6 g6 x6 n6; have Y6 := hid (Below.grown Y5.out g6 (Nat.le_trans hw0 hz5) (fun q hq => Nat.le_trans hw0 (oa.lt q hq).1)); obtain ⟨t6, t6'⟩ := HC.out _ Y6.out; have B6 := hid (B5.out.grown g6 (fun b hb e => (AP4.out.1 b hb).1 e.symm)); have N6 := hid (N5.out.grown g6 (fun b hb e => AP4.out.2 b e.symm hb)); have X6 := hid (X5.out.grown g6 (fun b hb e => by have h1 := (X5.out.lt b hb).1; have h2 := L4.out.2.1 b e.symm; omega)); have P6 := hid (pack_grown P5.out g6 (fun e => by have := (oa.lt _ e).1; omega) (fun e => by have := (oa.lt _ e).1; omega)); have AP6 := hid (AP4.out.snd n6 (fun b hb => (B5.out.lt b hb).2) (fun b hb => (N5.out.lt b hb).2)); have G6 := hid o6; have hz6 : b0 ≤ w6.heap.size := Nat.le_trans hz5 g6.size; have on := N6.out; clear o6 g6 x6 n6 t6' oa t5 B5 N5 G5 X5 P5 Y5 AP4)) | ((with_reducible show wpList _ _ _ (⟨some 111, _, _, _, _, _⟩ :: _) _ _); go_must (refine wpList_append_1' rfl (.tmp 104) (.tmp 110) 39 rfl b0 9 k0 (.string ⟨#[]⟩) 16 Try.underlying39 ki kz0 kz1 kz2 rfl ⟨_, rfl⟩ (fun _ h => h.one) rfl on (.string (str nn)) (by rfl) ⟨_, rfl⟩ (by omega) (by unfold maxLen; omega) hz6 ?_; intro A7 c7 w7 o7 g7 x7 n7; have Y7 := hid (Below.grown Y6.out g7 (Nat.le_trans hw0 hz6) (fun q hq => Nat.le_trans hw0 (on.lt q hq).1)); have B7 := hid (B6.out.grown g7 (fun b hb e => (AP6.out.1 b hb).2 e.symm)); have G7 := hid (G6.out.grown g7 (fun b hb e => AP6.out.2 b hb e.symm)); have X7 := hid (X6.out.grown g7 (fun b hb e => by have h1 := (X6.out.lt b hb).1; have h2 := L4.out.2.2 b e.symm; omega)); have P7 := hid (pack_grown P6.out g7 (fun e => by have := (on.lt _ e).1; omega) (fun e => by have := (on.lt _ e).1; omega)); have AP7 := hid (AP6.out.thd n7 (fun b hb => (B6.out.lt b hb).2) (fun b hb => (G6.out.lt b hb).2)); have N7 := hid o7; have hz7 : b0 ≤ w7.heap.size := Nat.le_trans hz6 g7.size; have ob : OwnG isU8 w7 b0 5 1 A4 (B.length + pv) c4 (M.map u8v) := (by rw [← hB4]; exact B7.out); have rx : RdG w7 1 A5 xl c5 (R1.1.map u8v) := (by rw [← HXE.out]; exact X7.out.rd); clear o7 g7 x7 n7 on t6 B6 N6 G6 X6 P6 Y6 AP6)) | ((with_reducible show wpList _ _ _ (⟨some 114, _, _, _, _, _⟩ :: _) _ _); go_must (refine wpList_append_g (by rfl) (.tmp 112) (.tmp 113) 22 rfl b0 5 i0 (.int .u8 0) 1 1 Try.underlying22 hi hz0 hz1 hz2 rfl (by decide) (by simp [Value.cells]; exact ⟨0, rfl⟩) (fun _ h => h.one) rfl ob rfl rx (isU8_map _) (by omega) (by unfold maxLen; omega) hz7 ?_; intro A8 c8 w8 o8 g8 y8; have Y8 := hid (Below.grown Y7.out g8 (Nat.le_trans hw0 hz7) (fun q hq => Nat.le_trans hw0 (ob.lt q hq).1)); have B8 := hid (own_app (O := M) (X := R1.1) HXE.out (by rw [hB4]; exact o8)); have G8 := hid (G7.out.grown g8 (fun b hb e => (AP7.out.1 b e.symm).1 hb)); have N8 := hid (N7.out.grown g8 (fun b hb e => (AP7.out.1 b e.symm).2 hb)); have P8 := hid (pack_grown P7.out g8 (fun e => by have := (ob.lt _ e).1; omega) (fun e => by have := (ob.lt _ e).1; omega)); have AP8 := hid (AP7.out.fst (new_blk y8) (fun b hb => (G7.out.lt b hb).2) (fun b hb => (N7.out.lt b hb).2)); have hz8 : b0 ≤ w8.heap.size := Nat.le_trans hz7 g8.size; clear o8 g8 y8 ob rx B7 G7 N7 X7 P7 Y7 AP7)))
    refine ⟨⟨k + 1, by omega, by go_num, ?_⟩, by simp [intOf]; omega⟩
    have e1 : (M ++ R1.1).length = B.length + pv + xl := by rw [List.length_append, hB4, HXE.out]
    have e2 : (P ++ [(M.length, Ls)]).length = P.length + 1 := by simp
    have G9 : Hid (OwnG okI w8 b0 3 1 A6 (P ++ [(M.length, Ls)]).length c6 ((P ++ [(M.length, Ls)]).map atV)) := by
      refine hid ?_
      rw [e2, List.map_append]
      show OwnG okI w8 b0 3 1 A6 (P.length + 1) c6 (P.map atV ++ [.int .i64 ((M.length : Nat) : Int)])
      rw [hB4, Int.natCast_add]
      exact G8.out
    have N9 : Hid (OwnG okS w8 b0 9 1 A7 (P ++ [(M.length, Ls)]).length c7 ((P ++ [(M.length, Ls)]).map nmV)) := by
      refine hid ?_
      rw [e2, List.map_append]
      show OwnG okS w8 b0 9 1 A7 (P.length + 1) c7 (P.map nmV ++ [.string (str (wire Ls))])
      rw [← HLS.out]
      exact N8.out
    exact ⟨T0 ++ R1.2, M.length + R1.1.length, M ++ R1.1, P ++ [(M.length, Ls)], A8, A6, A7, c8, c6, c7, by rw [e1], by rw [e2], by rw [e2], by omega, by omega, by rw [List.length_append]; omega, by rw [List.length_append]; exact Nat.le_refl _, TI5, LD6, P8, B8, G9, N9, AP8, hz8, Y8⟩
end Go.Proofs.Ytfimfmghfjokjaa

/- DrrServes: the walk. -/
import Derived.Test.YtkogagpahidenaaDrrJ
import Derived.Deep.DeepCutAuto
import Derived.IntWalk
namespace Go.Proofs.Ytkogagpahidenaa
open Go.BK Go.BK.DR Go.RowKit Go.Maps
set_option linter.unusedVariables false
def SvRel (w w1 : World) (g n : Nat) (p : Par) (i : Value) (wr : World) : Prop := ∃ (k : Nat) (s : St), k ≤ n ∧ i = .int .i64 k ∧ QB w1.heap.size w1 wr g p s
def SvRel2 (w4 : World) (U : Nat → Prop) (g N : Nat) (p : Par) (cl : Int) (i : Value) (wr : World) : Prop :=
  ∃ (k : Nat) (s : St), k ≤ N ∧ i = .int .i64 k ∧ Qs U wr g p s ∧ Shy U w4 wr ∧ Wait p s cl 1000 (N - k)
def CutS (w4 : World) (U : Nat → Prop) (g F : Nat) (p : Par) (cl : Int) (wx : World) : Prop := ∃ s, Qs U wx g p s ∧ Shy U w4 wx ∧ Wait p s cl 1000 F
set_option maxHeartbeats 8000000 in
set_option maxRecDepth 100000 in
theorem serves_walk {A : Option Addr} {n c : Nat} {K C S X : Nat → Int} (a0 a1 a2 a3 cl co : Int) (w : World) (h0 : wfI a0) (h1 : wfI a1) (h2 : wfI a2) (h3 : wfI a3) (hl : IActR w A n c K C S X) (h4 : wfI cl) (h5 : wfI co) :
    Calls Try.prog 4 #[.int .i64 a0, .int .i64 a1, .int .i64 a2, .int .i64 a3, .slice A n c, .int .i64 cl, .int .i64 co] w fun e w' => e = .returned (.bool true) ∧ Below w.heap.size w w' := by
  obtain ⟨s1, s2, s3, s4⟩ := shape_ok a0 a1 a2 a3
  have CS := fun W => shape_any a0 a1 a2 a3 W h0 h1 h2 h3
  obtain ⟨p, hp⟩ : ∃ p, shapeP a0 a1 a2 a3 = p := ⟨_, rfl⟩
  rw [hp] at s1 s2 s3 s4 CS
  have CS := hid CS
  have CN := hid (fun W => q_new p.clients p.items p.quantum p.most W s1)
  have hn9 := hl.n_le
  have HL := hid hl
  have P1 := hid s1
  have hpp := s1
  unfold Par.ok at hpp
  clear hp hl h0 h1 h2 h3 s1
  go_enter Try.func4, Try.ntmps4
  go_wp2_with fail
  refine (awake_yes w).mono ?_
  rintro e w0 ⟨rfl, x0⟩
  have X0 := hid x0
  clear x0
  go_wp2_with fail
  refine (CS.out w0).mono ?_
  rintro e _ ⟨rfl, rfl⟩
  go_wp2_with fail
  refine (CN.out w0).mono ?_
  rintro e w1 ⟨g, rfl, hq, hx⟩
  have Q1 : Hid (QB w0.heap.size w0 w1 g p ⟨[], false⟩) := hid ⟨hq, hx, hx.size⟩
  clear hq hx
  by_cases hlong : 200 < n
  · have q1 : decide ((200 : Int) < (n : Int)) = true := by simp; omega
    go_wp2_with fail
    go_ret
    exact ⟨rfl, Below.trans X0.out (Q1.out.2.1.mono X0.out.size)⟩
  have q1 : decide ((200 : Int) < (n : Int)) = false := by simp; omega
  have hn2 : n ≤ 200 := by omega
  clear hlong
  go_wp2_with fail
  go_loopw [18] (fun i wr => SvRel w w0 g n p i wr) (fun i _ => n - (intOf i).toNat)
  case atStart => exact ⟨0, _, Nat.zero_le _, rfl, Q1.out⟩
  case round =>
    obtain ⟨k, s, hk, rfl, hq⟩ := hrel
    by_cases hlt : k < n
    · have i1 : (k : Int) < (n : Int) := by omega
      obtain ⟨b, o, rfl, hb, hc⟩ := HL.out.at_ (Below.trans X0.out (hq.2.1.mono X0.out.size)) (by omega)
      obtain ⟨c0, c1, c2, c3⟩ := hc k hlt
      obtain ⟨y0, y1, y2, y3⟩ := HL.out.wf hlt
      obtain ⟨z0, e0⟩ : ∃ z, K k = z := ⟨_, rfl⟩
      obtain ⟨z1, e1⟩ : ∃ z, C k = z := ⟨_, rfl⟩
      obtain ⟨z2, e2⟩ : ∃ z, S k = z := ⟨_, rfl⟩
      obtain ⟨z3, e3⟩ : ∃ z, X k = z := ⟨_, rfl⟩
      rw [e0] at c0 y0
      rw [e1] at c1 y1
      rw [e2] at c2 y2
      rw [e3] at c3 y3
      have CP := hid (fun W => pick_any z0 7 W y0 (by decide))
      have hpk := pick_range z0 7 (by decide)
      obtain ⟨pk, epk⟩ : ∃ z, pick z0 7 = z := ⟨_, rfl⟩
      rw [epk] at CP hpk
      have xa := ext_alloc wr (.cells #[.int .i64 z0, .int .i64 z1, .int .i64 z2, .int .i64 z3] 37)
      have ha := hq.ext xa
      have CU := hid (qb_put ha z1 z2 k y1)
      have CX := hid (qb_next ha)
      have xb := Blk.new wr 37 #[.int .i64 z0, .int .i64 z1, .int .i64 z2, .int .i64 z3]
      clear hc e0 e1 e2 e3 epk y0 y1 y2 y3 hq ha xa
      by_cases hp3 : pk < 3
      · go_wp2_with fail
        refine (CP.out _).mono ?_
        rintro e _ ⟨rfl, rfl⟩
        go_wp2_with fail
        refine CU.out.mono ?_
        rintro e w2 ⟨rfl, hq2⟩
        have Q2 := hid hq2
        clear hq2
        go_wp2_with fail
        go_roundw
        case rel => exact ⟨k + 1, _, by omega, by go_num, Q2.out⟩
        case measure => simp [intOf]; omega
      · go_wp2_with fail
        refine (CP.out _).mono ?_
        rintro e _ ⟨rfl, rfl⟩
        go_wp2_with fail
        refine CX.out.mono ?_
        rintro e w2 ⟨rfl, hq2⟩
        have Q2 := hid hq2
        clear hq2
        obtain ⟨v1, v2, v3, hv⟩ : ∃ v1 v2 v3, tellV (nextS p s).2 = .tuple #[v1, v2, v3] := by
          cases (nextS p s).2 with
          | none => exact ⟨_, _, _, rfl⟩
          | some x => exact ⟨_, _, _, rfl⟩
        rw [hv]
        clear hv
        go_wp2_with fail
        go_roundw
        case rel => exact ⟨k + 1, _, by omega, by go_num, Q2.out⟩
        case measure => simp [intOf]; omega
    · obtain rfl : k = n := by omega
      have C1 := hid (q_of hq.1 cl h4)
      have CP := hid (pick_any co p.most wr h5 (by omega))
      have hpk := pick_range co p.most (by omega)
      obtain ⟨pk, epk⟩ : ∃ z, pick co p.most = z := ⟨_, rfl⟩
      rw [epk] at CP hpk
      have CU := qb_put hq cl (1 + pk) 1000 h4
      obtain ⟨ko, hko⟩ : ∃ ko, ofS s cl = ko := ⟨_, rfl⟩
      rw [hko] at C1
      obtain ⟨ans, hans⟩ : ∃ ans, (putS p s cl (1 + pk) 1000).2 = ans := ⟨_, rfl⟩
      rw [hans] at CU
      have CU := hid CU
      have HQ := hid hq
      have HKO := hid hko
      have HANS := hid hans
      have i1 : ¬ (k : Int) < (k : Int) := by omega
      clear hq epk hko hans
      by_cases hz : ans = 0
      · subst hz
        go_wp2_with fail
        refine C1.out.mono ?_
        rintro e _ ⟨rfl, rfl⟩
        go_wp2_with fail
        refine CP.out.mono ?_
        rintro e _ ⟨rfl, rfl⟩
        go_wp2_with fail
        refine CU.out.mono ?_
        rintro e w3 ⟨rfl, hq3⟩
        have hw := wait_begin P1.out HQ.out.1.2.1 HANS.out
        rw [HKO.out] at hw
        obtain ⟨s', hs'⟩ : ∃ s', (putS p s cl (1 + pk) 1000).1 = s' := ⟨_, rfl⟩
        rw [hs'] at hw hq3
        have C2 := hid (q_clients hq3.1)
        have Q3 := hid hq3
        have HW := hid hw
        clear hq3 hw hs' CU CP C1
        go_wp2_with fail
        refine C2.out.mono ?_
        rintro e w4 ⟨T, tc, rfl, ot, x4⟩
        have hne := wait_ne HW.out
        have hml : (clientsS s').length = s'.ring.length := by simp [clientsS]
        obtain ⟨m, hm⟩ : ∃ m, (clientsS s').length = m := ⟨_, rfl⟩
        have hm1 : 1 ≤ m := by
          have := List.length_pos_iff.2 hne
          omega
        have hm8 : (m : Int) ≤ 8 := by have := Q3.out.1.2.1.1; omega
        have hko : (ko : Int) ≤ 12 := by have := of_le (a := cl) HQ.out.1.2.1 P1.out; rw [HKO.out] at this; omega
        rw [hm] at ot
        obtain ⟨tb, rfl, ht1, ht2⟩ := ot.head (by have := ot.rd.cap.1; omega)
        have x04 : Below w0.heap.size w0 w4 := Below.trans Q3.out.2.1 (x4.mono Q3.out.2.2)
        have Q4 : Hid (Qs (fun k => w0.heap.size ≤ k ∧ k ≠ tb) w4 g p s') := hid ((Q3.out.1.mono fun k hk e => ⟨e, by omega⟩).ext x4)
        obtain ⟨Bn, hBn⟩ : ∃ Bn : Nat, (p.quantum + p.most).toNat = Bn := ⟨_, rfl⟩
        have hBi : p.quantum + p.most = (Bn : Int) := by omega
        have hB80 : Bn ≤ 80 := by omega
        obtain ⟨N1, hN1⟩ : ∃ N1 : Nat, (ko + 1) * m = N1 := ⟨_, rfl⟩
        have hN1b : N1 ≤ 104 := by
          rw [← hN1]
          exact Nat.mul_le_mul (show ko + 1 ≤ 13 by omega) (show m ≤ 8 by omega)
        obtain ⟨N, hN⟩ : ∃ N : Nat, N1 * Bn = N := ⟨_, rfl⟩
        have hNb : N ≤ 8320 := by
          rw [← hN]
          exact Nat.mul_le_mul hN1b hB80
        have hW2 : Wait p s' cl 1000 N := by
          have := HW.out
          rw [hBn, ← hml, hm, ← Nat.mul_assoc, hN1, hN] at this
          exact this
        have e1 : ((ko : Int) + 1) * (m : Int) = (N1 : Int) := by rw [← hN1]; simp
        have e2 : (N1 : Int) * (Bn : Int) = (N : Int) := by rw [← hN]; simp
        have OT := hid ot
        have X04 := hid x04
        have HW2 := hid hW2
        have HM := hid hm
        clear hne hml hm ot x04 hW2 hN1 hN hBn HW x4
        have v1 : wrap64 (((ko : Int) + 1) * (m : Int)) = (N1 : Int) := by rw [e1]; exact IntWalk.wrap64_in _ (by omega)
        have v2 : wrap64 ((N1 : Int) * (Bn : Int)) = (N : Int) := by rw [e2]; exact IntWalk.wrap64_in _ (by omega)
        have V1 := hid v1
        have V2 := hid v2
        clear e1 e2 v1 v2
        go_upto_region 20 with (fail)
        rw [HM.out, V1.out, V2.out]
        have hsh := Shy.refl (U := fun k => w0.heap.size ≤ k ∧ k ≠ tb) w4
        have TC : Hid (∀ W, Shy (fun k => w0.heap.size ≤ k ∧ k ≠ tb) w4 W → ∀ j, j < m → W.cell? ⟨tb, j, none⟩ = some (.int .i64 ((clientsS s').getD j 0))) := hid (by
          intro W hs j hj
          have o2 := Shy.ownG hs OT.out fun k hk e => by simp at hk; exact e.2 hk.symm
          obtain ⟨b, o, hA, _, hc⟩ := o2.rd.2.2.2 (by omega)
          injection hA with hA
          injection hA with h1 h2
          subst h1; subst h2
          have := hc j (.int .i64 ((clientsS s').getD j 0)) (by simp [intsV, hj, HM.out])
          simpa using this)
        have WF : Hid (∀ j, j < m → wfI ((clientsS s').getD j 0)) := hid (by
          intro j hj
          have h1 : j < (clientsS s').length := by rw [HM.out]; exact hj
          have h2 : (clientsS s').getD j 0 ∈ clientsS s' := by simp [List.getD, h1]
          unfold clientsS at h2
          obtain ⟨c, hc, h3⟩ := List.mem_map.1 h2
          unfold clientsS
          rw [← h3]
          exact Q4.out.wfn c hc)
        have HSH := hid hsh
        clear hsh
        go_wp2_with fail
        go_loopw [23] (fun i wr => SvRel2 w4 (fun k => w0.heap.size ≤ k ∧ k ≠ tb) g N p cl i wr) (fun i _ => N - (intOf i).toNat)
        case atStart => exact ⟨0, s', Nat.zero_le _, rfl, Q4.out, HSH.out, HW2.out⟩
        case round =>
          rename_i wq
          obtain ⟨j, sj, hj, rfl, qj, shj, hwj⟩ := hrel
          by_cases hlt : j < N
          · have i2 : (j : Int) < (N : Int) := by omega
            have WJ := hid hwj
            have QJ := hid qj
            have SJ := hid shj
            have hzb : w4.heap.size ≤ wr.heap.size := SJ.out.size
            have h04 := X04.out.size
            have hnew : ∀ W : World, wr.heap.size ≤ W.heap.size → ∀ q, W.heap.size ≤ q → w0.heap.size ≤ q ∧ q ≠ tb := fun W hW q hq => ⟨by omega, by omega⟩
            have HNEW := hid hnew
            clear hwj qj shj hnew
            go_upto_if 111 with (fail)
            go_cut [] (fun wx => CutS w4 (fun k => w0.heap.size ≤ k ∧ k ≠ tb) g (N - j) p cl wx)
            case first =>
              by_cases hk0 : k = 0
              · subst hk0
                go_wp2_with fail
                go_meet
                exact ⟨sj, QJ.out, SJ.out, WJ.out⟩
              · have hkp : 0 < k := by omega
                have i3 : (0 : Int) < (k : Int) := by omega
                have hb04 : Below w.heap.size w wr := Below.trans X0.out ((Below.trans X04.out (SJ.out.below X04.out.size fun q hq e => by omega)).mono X0.out.size)
                obtain ⟨b, o, rfl, hb, hc⟩ := HL.out.at_ hb04 hkp
                have hjk : j % k < k := Nat.mod_lt _ hkp
                obtain ⟨c0, c1, c2, c3⟩ := hc (j % k) hjk
                obtain ⟨y0, y1, y2, y3⟩ := HL.out.wf hjk
                have htm : (j : Int).tmod (k : Int) = ((j % k : Nat) : Int) := rfl
                obtain ⟨jk, ejk⟩ : ∃ jk, j % k = jk := ⟨_, rfl⟩
                rw [ejk] at c0 c1 c2 c3 y0 y1 y2 y3 htm hjk
                have i4 : (jk : Int) < (k : Int) := by omega
                have i5 : (0 : Int) ≤ (jk : Int) := by omega
                obtain ⟨z0, e0⟩ : ∃ z, K jk = z := ⟨_, rfl⟩
                obtain ⟨z1, e1⟩ : ∃ z, C jk = z := ⟨_, rfl⟩
                obtain ⟨z2, e2⟩ : ∃ z, S jk = z := ⟨_, rfl⟩
                obtain ⟨z3, e3⟩ : ∃ z, X jk = z := ⟨_, rfl⟩
                rw [e0] at c0 y0
                rw [e1] at c1 y1
                rw [e2] at c2 y2
                rw [e3] at c3 y3
                have CP := hid (fun W => pick_any z1 m W y1 (by omega))
                have hpk2 := pick_range z1 m (by omega)
                obtain ⟨pj, epj⟩ : ∃ pj : Nat, pick z1 m = pj := ⟨(pick z1 m).toNat, by omega⟩
                rw [epj] at CP hpk2
                have hpjm : pj < m := by omega
                have i6 : (pj : Int) < (m : Int) := by omega
                have xa := ext_alloc wr (.cells #[.int .i64 z0, .int .i64 z1, .int .i64 z2, .int .i64 z3] 37)
                have sa := SJ.out.trans (Shy.of_ext (U := fun _ => False) xa) fun _ _ h => h.elim
                have tc1 := TC.out _ sa pj hpjm
                have wf1 := WF.out pj hpjm
                obtain ⟨v, ev⟩ : ∃ v, (clientsS s').getD pj 0 = v := ⟨_, rfl⟩
                rw [ev] at tc1 wf1
                have qa := QJ.out.ext xa
                have CO := hid (q_of qa v wf1)
                have CU := hid (qu_put qa (HNEW.out _ xa.size) v z2 2000 wf1)
                have QA := hid qa
                have SA := hid sa
                clear hc e0 e1 e2 e3 epj y0 y1 y2 y3 xa sa qa ev wf1 ejk hb04
                by_cases hv : v = cl
                · have hvb : (v != cl) = false := by simp [hv]
                  clear hv
                  go_wp2_with fail
                  refine (CP.out _).mono ?_
                  rintro e _ ⟨rfl, rfl⟩
                  go_wp2_with fail
                  go_meet
                  exact ⟨sj, QA.out, SA.out, WJ.out⟩
                · have hvb : (v != cl) = true := by simp [hv]
                  have HV := hid hv
                  clear hv
                  by_cases hof : 0 < ofS sj v
                  · have i7 : (0 : Int) < (ofS sj v : Int) := by omega
                    go_wp2_with fail
                    refine (CP.out _).mono ?_
                    rintro e _ ⟨rfl, rfl⟩
                    go_wp2_with fail
                    refine CO.out.mono ?_
                    rintro e _ ⟨rfl, rfl⟩
                    go_wp2_with fail
                    refine CU.out.mono ?_
                    rintro e w6 ⟨rfl, q6, s6⟩
                    have Q6 := hid q6
                    have S6 := hid s6
                    clear q6 s6
                    go_wp2_with fail
                    go_meet
                    exact ⟨_, Q6.out, SA.out.trans S6.out fun _ _ h => h, wait_put QA.out.2.1 WJ.out HV.out (of_pos hof)⟩
                  · have i7 : ¬ (0 : Int) < (ofS sj v : Int) := by omega
                    go_wp2_with fail
                    refine (CP.out _).mono ?_
                    rintro e _ ⟨rfl, rfl⟩
                    go_wp2_with fail
                    refine CO.out.mono ?_
                    rintro e _ ⟨rfl, rfl⟩
                    go_wp2_with fail
                    go_meet
                    exact ⟨sj, QA.out, SA.out, WJ.out⟩
            case rest =>
              obtain ⟨s2, q2, sh2, wt2⟩ := hcut
              have CX := qu_next q2 (fun q hq => by have := sh2.size; have := X04.out.size; exact ⟨by omega, by omega⟩)
              obtain ⟨x1, x2, hx, hor⟩ := wait_next P1.out q2.2.1 wt2
              rw [hx] at CX
              simp only [tellV] at CX
              have CX := hid CX
              have SH2 := hid sh2
              have HOR := hid hor
              clear q2 sh2 wt2 hx hor
              by_cases hx1 : x1 = cl ∧ x2 = 1000
              · obtain ⟨rfl, rfl⟩ := hx1
                go_wp2_with fail
                refine CX.out.mono ?_
                rintro e w6 ⟨rfl, q6, s6⟩
                have S6 := hid s6
                clear q6 s6
                go_wp2_with fail
                go_ret
                refine ⟨rfl, ?_⟩
                exact Below.trans X0.out ((Below.trans X04.out ((SH2.out.trans S6.out fun _ _ h => h).below X04.out.size fun q hq e => by omega)).mono X0.out.size)
              · rcases HOR.out with h | ⟨G, hG, hW⟩
                · exact absurd h hx1
                · have HG := hid hG
                  have HWW := hid hW
                  have hb2 : x1 = cl → (x2 == 1000) = false := fun e => by
                    rw [beq_eq_false_iff_ne]
                    exact fun e2 => hx1 ⟨e, e2⟩
                  have HB2 := hid hb2
                  clear hG hW hx1 hb2
                  by_cases hcl : x1 = cl
                  · have hb1 : (x1 == cl) = true := by simp [hcl]
                    have hb3 := HB2.out hcl
                    clear hcl
                    go_wp2_with fail
                    refine CX.out.mono ?_
                    rintro e w6 ⟨rfl, q6, s6⟩
                    have Q6 := hid q6
                    have S6 := hid s6
                    clear q6 s6
                    go_wp2_with fail
                    go_roundw
                    case rel => exact ⟨j + 1, _, by omega, by go_num, Q6.out, SH2.out.trans S6.out fun _ _ h => h, wait_mono HWW.out (by have := HG.out; omega)⟩
                    case measure => simp [intOf]; omega
                  · have hb1 : (x1 == cl) = false := by simp [hcl]
                    clear hcl
                    go_wp2_with fail
                    refine CX.out.mono ?_
                    rintro e w6 ⟨rfl, q6, s6⟩
                    have Q6 := hid q6
                    have S6 := hid s6
                    clear q6 s6
                    go_wp2_with fail
                    go_roundw
                    case rel => exact ⟨j + 1, _, by omega, by go_num, Q6.out, SH2.out.trans S6.out fun _ _ h => h, wait_mono HWW.out (by have := HG.out; omega)⟩
                    case measure => simp [intOf]; omega
          · obtain rfl : j = N := by omega
            exfalso
            have := wait_pos hwj
            omega
      · have hzb : (ans != 0) = true := by simpa using hz
        go_wp2_with fail
        refine C1.out.mono ?_
        rintro e _ ⟨rfl, rfl⟩
        go_wp2_with fail
        refine CP.out.mono ?_
        rintro e _ ⟨rfl, rfl⟩
        go_wp2_with fail
        refine CU.out.mono ?_
        rintro e w3 ⟨rfl, hq3⟩
        have Q3 := hid hq3
        clear hq3
        go_wp2_with fail
        go_ret
        exact ⟨rfl, Below.trans X0.out (Q3.out.2.1.mono X0.out.size)⟩
end Go.Proofs.Ytkogagpahidenaa

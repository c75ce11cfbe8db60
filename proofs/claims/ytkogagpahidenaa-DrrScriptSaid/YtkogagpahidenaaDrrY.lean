/- DrrScript: the walk. -/
import Derived.Test.YtkogagpahidenaaDrrYa
import Derived.Deep.RegionHeld3
import Derived.BigQuiet
namespace Go.Proofs.Ytkogagpahidenaa
open Go.BK Go.BK.DR Go.RowKit Go.Maps
set_option linter.unusedVariables false
def ScRel (base n : Nat) (w : World) (p : Par) (g h : Nat) (i : Value) (wr : World) : Prop := ∃ (k : Nat) (s : St), k ≤ n ∧ i = .int .i64 k ∧ Duo base wr p s s g h ∧ Below base w wr
def StRel (w8 : World) (b0 m c : Nat) (A : Option Addr) (i : Value) (wr : World) : Prop := ∃ (j : Nat) (ys : List Value), j ≤ m ∧ i = .int .i64 j ∧ OwnG isI wr b0 3 1 A m c ys ∧ Shy (fun k => blk A = some k) w8 wr
theorem below_ext' {B : Nat} {a b c : World} (h : Below B a b) (hB : B ≤ b.heap.size) (x : Ext b c) : Below B a c := Below.trans h (x.mono hB)
set_option maxHeartbeats 8000000 in
set_option maxRecDepth 100000 in
theorem script_walk {A : Option Addr} {n c : Nat} {K C S X : Nat → Int} (a0 a1 a2 a3 cl : Int) (w : World) (h0 : wfI a0) (h1 : wfI a1) (h2 : wfI a2) (h3 : wfI a3) (hl : IActR w A n c K C S X) (h4 : wfI cl) :
    Calls Try.prog 6 #[.int .i64 a0, .int .i64 a1, .int .i64 a2, .int .i64 a3, .slice A n c, .int .i64 cl] w fun e w' => e = .returned (.bool true) ∧ Below w.heap.size w w' := by
  have hn9 := hl.n_le
  have HL := hid hl
  clear hl h0 h1 h2 h3
  by_cases hlong : 200 < n
  · have q1 : decide ((200 : Int) < (n : Int)) = true := by simp; omega
    go_enter Try.func6, Try.ntmps6
    go_wp2_with fail
    refine (awake_yes _).mono ?_
    rintro e w1 ⟨rfl, x1⟩
    have X1 := hid x1
    clear x1
    go_wp2_with fail
    go_ret
    exact ⟨rfl, X1.out⟩
  have q1 : decide ((200 : Int) < (n : Int)) = false := by simp; omega
  have hn2 : n ≤ 200 := by omega
  clear hlong
  by_cases hok : Par.ok ⟨a0, a1, a2, a3⟩
  case neg =>
    have C1 := hid (new_no a0 a1 a2 a3 w hok)
    have C2 := hid (rnew_no a0 a1 a2 a3 w hok)
    clear hok
    go_enter Try.func6, Try.ntmps6
    go_wp2_with fail
    refine C1.out.mono ?_
    rintro e _ ⟨rfl, rfl⟩
    go_wp2_with fail
    refine C2.out.mono ?_
    rintro e _ ⟨rfl, rfl⟩
    go_wp2_with fail
    refine (awake_yes _).mono ?_
    rintro e w1 ⟨rfl, x1⟩
    have X1 := hid x1
    clear x1
    go_wp2_with fail
    go_ret
    exact ⟨rfl, X1.out⟩
  have C1 := hid (q_new a0 a1 a2 a3 w hok)
  have C2 := hid (fun W => r_new a0 a1 a2 a3 W hok)
  obtain ⟨p, hp⟩ : ∃ p : Par, p = ⟨a0, a1, a2, a3⟩ := ⟨_, rfl⟩
  rw [← hp] at C1 C2
  have HP := hid hp
  clear hok hp
  go_enter Try.func6, Try.ntmps6
  go_wp2_with fail
  refine C1.out.mono ?_
  rintro e w1 ⟨g, rfl, q0, x0⟩
  have Q0 := hid q0
  have X0 := hid x0
  clear q0 x0
  go_wp2_with fail
  refine (C2.out _).mono ?_
  rintro e w2 ⟨h, rfl, r0, x2⟩
  have D0 : Hid (Duo w.heap.size w2 p ⟨[], false⟩ ⟨[], false⟩ g h) := hid (by
    have := HP.out
    subst this
    exact duo_new Q0.out X0.out r0 x2)
  have B0 := hid (ext_trans X0.out x2)
  clear r0 x2
  go_wp2_with fail
  go_loopw [17] (fun i wr => ScRel w.heap.size n w p g h i wr) (fun i _ => n - (intOf i).toNat)
  case atStart => exact ⟨0, _, Nat.zero_le _, rfl, D0.out, B0.out⟩
  case round =>
    obtain ⟨k, s, hk, rfl, dd, bb⟩ := hrel
    by_cases hlt : k < n
    · have i1 : (k : Int) < (n : Int) := by omega
      obtain ⟨b, o, rfl, hb, hc⟩ := HL.out.at_ bb (by omega)
      obtain ⟨c0, c1, c2, c3⟩ := hc k hlt
      obtain ⟨y0, y1, y2, y3⟩ := HL.out.wf hlt
      obtain ⟨z0, e0⟩ : ∃ z, K k = z := ⟨_, rfl⟩
      obtain ⟨z1, e1⟩ : ∃ z, C k = z := ⟨_, rfl⟩
      obtain ⟨z2, e2⟩ : ∃ z, S k = z := ⟨_, rfl⟩
      obtain ⟨z3, e3⟩ : ∃ z, X k = z := ⟨_, rfl⟩
      rw [e0] at c0 y0
      rw [e1] at c1 y1
      rw [e2] at c2 y2
      rw [e3] at c3 y3
      have CP := hid (fun W => pick_any z0 7 W y0 (by decide))
      have hpk := pick_range z0 7 (by decide)
      obtain ⟨pk, epk⟩ : ∃ z, pick z0 7 = z := ⟨_, rfl⟩
      rw [epk] at CP hpk
      have xa := ext_alloc wr (.cells #[.int .i64 z0, .int .i64 z1, .int .i64 z2, .int .i64 z3] 37)
      have D := hid (dd.ext xa)
      have B := hid (below_ext' bb bb.size xa)
      have xb := Blk.new wr 37 #[.int .i64 z0, .int .i64 z1, .int .i64 z2, .int .i64 z3]
      have XB := hid xb
      have Y1 := hid y1
      clear hc e0 e1 e2 e3 epk y0 y1 y2 y3 dd bb xa
      rcases (show pk = 3 ∨ pk = 4 ∨ pk = 5 ∨ pk = 6 ∨ pk < 3 by omega) with rfl | rfl | rfl | rfl | hp3
      · clear hpk
        obtain ⟨v1, v2, v3, hv⟩ : ∃ (v1 v2 : Int) (v3 : Bool), tellV ((nextS p s).2) = .tuple #[.int .i64 v1, .int .i64 v2, .bool v3] := by
          cases ((nextS p s).2) with
          | none => exact ⟨_, _, _, rfl⟩
          | some x => exact ⟨_, _, _, rfl⟩
        have t1 : (v1 == v1) = true := by simp
        have t2 : (v2 == v2) = true := by simp
        have t3 : (v3 == v3) = true := by simp
        have CQ := d_qnext D.out
        have CR := fun W (d : Duo w.heap.size W p (nextS p s).1 s g h) => d_rnext d
        rw [hv] at CQ
        simp only [hv] at CR
        have CQ := hid CQ
        have CR := hid CR
        clear hv
        go_wp2_with fail
        refine (CP.out _).mono ?_
        rintro e _ ⟨rfl, rfl⟩
        go_wp2_with fail
        refine CQ.out.mono ?_
        rintro e w2 ⟨rfl, d2, b2⟩
        have CR := hid (CR.out _ d2)
        have B2 := hid (Below.trans B.out b2)
        clear d2 b2
        go_wp2_with fail
        refine CR.out.mono ?_
        rintro e w3 ⟨rfl, d3, b3⟩
        have DD := hid d3
        have BB := hid (Below.trans B2.out b3)
        clear d3 b3
        have CL1 := d_qlen DD.out
        have CL2 := d_rlen DD.out
        have CO1 := d_qof DD.out cl h4
        have CO2 := d_rof DD.out cl
        have CC1 := d_qcli DD.out
        have CC2 := fun W (x : Ext _ W) => d_rcli (DD.out.ext x)
        obtain ⟨nl, hnl⟩ : ∃ x, lenS ((nextS p s).1) = x := ⟨_, rfl⟩
        obtain ⟨no, hno⟩ : ∃ x, ofS ((nextS p s).1) cl = x := ⟨_, rfl⟩
        obtain ⟨lc, hlc⟩ : ∃ x, clientsS ((nextS p s).1) = x := ⟨_, rfl⟩
        rw [hnl] at CL1 CL2
        rw [hno] at CO1 CO2
        rw [hlc] at CC1
        simp only [hlc] at CC2
        have CL1 := hid CL1
        have CL2 := hid CL2
        have CO1 := hid CO1
        have CO2 := hid CO2
        have CC1 := hid CC1
        have CC2 := hid CC2
        have u1 : ((nl : Int) == (nl : Int)) = true := by simp
        have u2 : ((no : Int) == (no : Int)) = true := by simp
        clear hnl hno hlc
        go_wp2_with fail
        refine CL1.out.mono ?_
        rintro e _ ⟨rfl, rfl⟩
        go_wp2_with fail
        refine CL2.out.mono ?_
        rintro e _ ⟨rfl, rfl⟩
        go_wp2_with fail
        refine CO1.out.mono ?_
        rintro e _ ⟨rfl, rfl⟩
        go_wp2_with fail
        refine CO2.out.mono ?_
        rintro e _ ⟨rfl, rfl⟩
        go_wp2_with fail
        refine CC1.out.mono ?_
        rintro e w6 ⟨A6, c6, rfl, r6, x6⟩
        have R6 := hid r6
        have X6 := hid x6
        clear r6 x6
        go_wp2_with fail
        refine (CC2.out _ X6.out).mono ?_
        rintro e w7 ⟨A7, c7, rfl, r7, x7⟩
        have CS := same_ints (R6.out.ext x7) r7
        rw [decide_eq_true rfl] at CS
        have CS := hid CS
        have X7 := hid (ext_trans X6.out x7)
        clear r7 x7
        go_wp2_with fail
        refine CS.out.mono ?_
        rintro e _ ⟨rfl, nq, rfl⟩
        go_wp2_with fail
        go_roundw
        case rel => exact ⟨k + 1, _, by omega, by go_num, DD.out.ext (ext_trans X7.out (ext_drewN _ _)), below_ext' BB.out BB.out.size (ext_trans X7.out (ext_drewN _ _))⟩
        case measure => simp [intOf]; omega
      · clear hpk
        obtain ⟨v1, v2, v3, hv⟩ : ∃ (v1 v2 : Int) (v3 : Bool), tellV ((nextS p s).2) = .tuple #[.int .i64 v1, .int .i64 v2, .bool v3] := by
          cases ((nextS p s).2) with
          | none => exact ⟨_, _, _, rfl⟩
          | some x => exact ⟨_, _, _, rfl⟩
        have t1 : (v1 == v1) = true := by simp
        have t2 : (v2 == v2) = true := by simp
        have t3 : (v3 == v3) = true := by simp
        have CQ := d_qnext D.out
        have CR := fun W (d : Duo w.heap.size W p (nextS p s).1 s g h) => d_rnext d
        rw [hv] at CQ
        simp only [hv] at CR
        have CQ := hid CQ
        have CR := hid CR
        clear hv
        go_wp2_with fail
        refine (CP.out _).mono ?_
        rintro e _ ⟨rfl, rfl⟩
        go_wp2_with fail
        refine CQ.out.mono ?_
        rintro e w2 ⟨rfl, d2, b2⟩
        have CR := hid (CR.out _ d2)
        have B2 := hid (Below.trans B.out b2)
        clear d2 b2
        go_wp2_with fail
        refine CR.out.mono ?_
        rintro e w3 ⟨rfl, d3, b3⟩
        have DD := hid d3
        have BB := hid (Below.trans B2.out b3)
        clear d3 b3
        have CL1 := d_qlen DD.out
        have CL2 := d_rlen DD.out
        have CO1 := d_qof DD.out cl h4
        have CO2 := d_rof DD.out cl
        have CC1 := d_qcli DD.out
        have CC2 := fun W (x : Ext _ W) => d_rcli (DD.out.ext x)
        obtain ⟨nl, hnl⟩ : ∃ x, lenS ((nextS p s).1) = x := ⟨_, rfl⟩
        obtain ⟨no, hno⟩ : ∃ x, ofS ((nextS p s).1) cl = x := ⟨_, rfl⟩
        obtain ⟨lc, hlc⟩ : ∃ x, clientsS ((nextS p s).1) = x := ⟨_, rfl⟩
        rw [hnl] at CL1 CL2
        rw [hno] at CO1 CO2
        rw [hlc] at CC1
        simp only [hlc] at CC2
        have CL1 := hid CL1
        have CL2 := hid CL2
        have CO1 := hid CO1
        have CO2 := hid CO2
        have CC1 := hid CC1
        have CC2 := hid CC2
        have u1 : ((nl : Int) == (nl : Int)) = true := by simp
        have u2 : ((no : Int) == (no : Int)) = true := by simp
        clear hnl hno hlc
        go_wp2_with fail
        refine CL1.out.mono ?_
        rintro e _ ⟨rfl, rfl⟩
        go_wp2_with fail
        refine CL2.out.mono ?_
        rintro e _ ⟨rfl, rfl⟩
        go_wp2_with fail
        refine CO1.out.mono ?_
        rintro e _ ⟨rfl, rfl⟩
        go_wp2_with fail
        refine CO2.out.mono ?_
        rintro e _ ⟨rfl, rfl⟩
        go_wp2_with fail
        refine CC1.out.mono ?_
        rintro e w6 ⟨A6, c6, rfl, r6, x6⟩
        have R6 := hid r6
        have X6 := hid x6
        clear r6 x6
        go_wp2_with fail
        refine (CC2.out _ X6.out).mono ?_
        rintro e w7 ⟨A7, c7, rfl, r7, x7⟩
        have CS := same_ints (R6.out.ext x7) r7
        rw [decide_eq_true rfl] at CS
        have CS := hid CS
        have X7 := hid (ext_trans X6.out x7)
        clear r7 x7
        go_wp2_with fail
        refine CS.out.mono ?_
        rintro e _ ⟨rfl, nq, rfl⟩
        go_wp2_with fail
        go_roundw
        case rel => exact ⟨k + 1, _, by omega, by go_num, DD.out.ext (ext_trans X7.out (ext_drewN _ _)), below_ext' BB.out BB.out.size (ext_trans X7.out (ext_drewN _ _))⟩
        case measure => simp [intOf]; omega
      · clear hpk
        obtain ⟨v1, v2, v3, hv⟩ : ∃ (v1 v2 : Int) (v3 : Bool), tellV (peekS p s) = .tuple #[.int .i64 v1, .int .i64 v2, .bool v3] := by
          cases (peekS p s) with
          | none => exact ⟨_, _, _, rfl⟩
          | some x => exact ⟨_, _, _, rfl⟩
        have t1 : (v1 == v1) = true := by simp
        have t2 : (v2 == v2) = true := by simp
        have t3 : (v3 == v3) = true := by simp
        have CQ := d_qpeek D.out
        have CR := fun W (x : Ext _ W) => d_rpeek (D.out.ext x)
        rw [hv] at CQ
        simp only [hv] at CR
        have CQ := hid CQ
        have CR := hid CR
        clear hv
        go_wp2_with fail
        refine (CP.out _).mono ?_
        rintro e _ ⟨rfl, rfl⟩
        go_wp2_with fail
        refine CQ.out.mono ?_
        rintro e w2 ⟨rfl, x2⟩
        have X2 := hid x2
        clear x2
        go_wp2_with fail
        refine (CR.out _ X2.out).mono ?_
        rintro e w3 ⟨rfl, x3⟩
        have DD := hid (D.out.ext (ext_trans X2.out x3))
        have BB := hid (below_ext' B.out B.out.size (ext_trans X2.out x3))
        clear x3
        have CL1 := d_qlen DD.out
        have CL2 := d_rlen DD.out
        have CO1 := d_qof DD.out cl h4
        have CO2 := d_rof DD.out cl
        have CC1 := d_qcli DD.out
        have CC2 := fun W (x : Ext _ W) => d_rcli (DD.out.ext x)
        obtain ⟨nl, hnl⟩ : ∃ x, lenS (s) = x := ⟨_, rfl⟩
        obtain ⟨no, hno⟩ : ∃ x, ofS (s) cl = x := ⟨_, rfl⟩
        obtain ⟨lc, hlc⟩ : ∃ x, clientsS (s) = x := ⟨_, rfl⟩
        rw [hnl] at CL1 CL2
        rw [hno] at CO1 CO2
        rw [hlc] at CC1
        simp only [hlc] at CC2
        have CL1 := hid CL1
        have CL2 := hid CL2
        have CO1 := hid CO1
        have CO2 := hid CO2
        have CC1 := hid CC1
        have CC2 := hid CC2
        have u1 : ((nl : Int) == (nl : Int)) = true := by simp
        have u2 : ((no : Int) == (no : Int)) = true := by simp
        clear hnl hno hlc
        go_wp2_with fail
        refine CL1.out.mono ?_
        rintro e _ ⟨rfl, rfl⟩
        go_wp2_with fail
        refine CL2.out.mono ?_
        rintro e _ ⟨rfl, rfl⟩
        go_wp2_with fail
        refine CO1.out.mono ?_
        rintro e _ ⟨rfl, rfl⟩
        go_wp2_with fail
        refine CO2.out.mono ?_
        rintro e _ ⟨rfl, rfl⟩
        go_wp2_with fail
        refine CC1.out.mono ?_
        rintro e w6 ⟨A6, c6, rfl, r6, x6⟩
        have R6 := hid r6
        have X6 := hid x6
        clear r6 x6
        go_wp2_with fail
        refine (CC2.out _ X6.out).mono ?_
        rintro e w7 ⟨A7, c7, rfl, r7, x7⟩
        have CS := same_ints (R6.out.ext x7) r7
        rw [decide_eq_true rfl] at CS
        have CS := hid CS
        have X7 := hid (ext_trans X6.out x7)
        clear r7 x7
        go_wp2_with fail
        refine CS.out.mono ?_
        rintro e _ ⟨rfl, nq, rfl⟩
        go_wp2_with fail
        go_roundw
        case rel => exact ⟨k + 1, _, by omega, by go_num, DD.out.ext (ext_trans X7.out (ext_drewN _ _)), below_ext' BB.out BB.out.size (ext_trans X7.out (ext_drewN _ _))⟩
        case measure => simp [intOf]; omega
      · clear hpk
        have CQ := hid (d_qdrop D.out XB.out z1 Y1.out)
        have CR := hid (fun W (d : Duo w.heap.size W p (dropS s z1).1 s g h) b0 n0 c0 A0 xs (o : OwnG isI W b0 3 1 A0 n0 c0 xs) => d_rdrop d o z1)
        obtain ⟨l, hll⟩ : ∃ l, (dropS s z1).2 = l := ⟨_, rfl⟩
        rw [hll] at CQ CR
        clear hll
        go_wp2_with fail
        refine (CP.out _).mono ?_
        rintro e _ ⟨rfl, rfl⟩
        go_wp2_with fail
        refine CQ.out.mono ?_
        rintro e w2 ⟨⟨A2, cp, rfl, o2, d2, b2⟩, k2⟩
        have o2 := o2.mono B.out.size
        have CR := hid (CR.out _ d2 _ _ _ _ _ o2)
        have B2 := hid (Below.trans B.out b2)
        have k21 := k2.cell 1
        simp at k21
        have k2f := k2.frozen
        have O2 := hid o2
        clear d2 b2 o2 k2
        go_wp2_with fail
        refine CR.out.mono ?_
        rintro e w3 ⟨⟨A3, c3', rfl, o3, d3, b3⟩, o23⟩
        have CS := same_ints o23.rd o3.rd
        rw [decide_eq_true rfl] at CS
        have CS := hid CS
        have D3 := hid d3
        have B3 := hid (Below.trans B2.out b3)
        have O23 := hid o23
        clear d3 b3 o3 o23
        go_wp2_with fail
        refine CS.out.mono ?_
        rintro e _ ⟨rfl, nq, rfl⟩
        generalize hw8 : World.drewN w3 nq = w8
        have x8 : Ext w3 w8 := by rw [← hw8]; exact ext_drewN _ _
        have D8 := hid (D3.out.ext x8)
        have B8 := hid (below_ext' B3.out B3.out.size x8)
        have O8 := hid (O23.out.ext x8)
        obtain ⟨m, hm⟩ : ∃ m, l.length = m := ⟨_, rfl⟩
        rw [hm] at O8 ⊢
        have hm9 := O8.out.rd.n_le
        clear hw8 x8 hm
        go_wp2_with fail
        go_loopw [32] (fun i wr => StRel w8 w.heap.size m cp A2 i wr) (fun i _ => m - (intOf i).toNat)
        case atStart => exact ⟨0, _, Nat.zero_le _, rfl, O8.out, Shy.refl _⟩
        case round =>
          obtain ⟨j, ys, hj, rfl, oj, sj⟩ := hrel
          by_cases hjm : j < m
          · have i2 : (j : Int) < (m : Int) := by omega
            obtain ⟨tb, rfl, ht1, ht2⟩ := oj.head (by have := oj.rd.cap.1; omega)
            obtain ⟨b', o', hA', hb', hcell⟩ := oj.rd.at_ hjm
            injection hA' with hA'
            injection hA' with e1 e2
            subst e1; subst e2
            rw [Nat.zero_add] at hcell
            have hfr := oj.frozen rfl
            have OJ := hid oj
            have SJ := hid sj
            clear oj sj
            go_wp2_with fail
            go_roundw
            case rel => exact ⟨j + 1, _, by omega, by go_num, OJ.out.set (by have := OJ.out.rd.cap.1; omega) ⟨_, rfl⟩ rfl, SJ.out.set (b := tb) (fun _ => rfl) j _⟩
            case measure => simp [intOf]; omega
          · obtain rfl : m = j := by omega
            have i2 : ¬ (m : Int) < (m : Int) := by omega
            have DD := hid (D8.out.stamp O8.out sj)
            have BB := hid (Below.trans B8.out (sj.below B8.out.size (fun k hk e => by have := (O8.out.lt k e).1; omega)))
            clear sj oj
            have CL1 := d_qlen DD.out
            have CL2 := d_rlen DD.out
            have CO1 := d_qof DD.out cl h4
            have CO2 := d_rof DD.out cl
            have CC1 := d_qcli DD.out
            have CC2 := fun W (x : Ext _ W) => d_rcli (DD.out.ext x)
            obtain ⟨nl, hnl⟩ : ∃ x, lenS ((dropS s z1).1) = x := ⟨_, rfl⟩
            obtain ⟨no, hno⟩ : ∃ x, ofS ((dropS s z1).1) cl = x := ⟨_, rfl⟩
            obtain ⟨lc, hlc⟩ : ∃ x, clientsS ((dropS s z1).1) = x := ⟨_, rfl⟩
            rw [hnl] at CL1 CL2
            rw [hno] at CO1 CO2
            rw [hlc] at CC1
            simp only [hlc] at CC2
            have CL1 := hid CL1
            have CL2 := hid CL2
            have CO1 := hid CO1
            have CO2 := hid CO2
            have CC1 := hid CC1
            have CC2 := hid CC2
            have u1 : ((nl : Int) == (nl : Int)) = true := by simp
            have u2 : ((no : Int) == (no : Int)) = true := by simp
            clear hnl hno hlc
            go_wp2_with fail
            refine CL1.out.mono ?_
            rintro e _ ⟨rfl, rfl⟩
            go_wp2_with fail
            refine CL2.out.mono ?_
            rintro e _ ⟨rfl, rfl⟩
            go_wp2_with fail
            refine CO1.out.mono ?_
            rintro e _ ⟨rfl, rfl⟩
            go_wp2_with fail
            refine CO2.out.mono ?_
            rintro e _ ⟨rfl, rfl⟩
            go_wp2_with fail
            refine CC1.out.mono ?_
            rintro e w6 ⟨A6, c6, rfl, r6, x6⟩
            have R6 := hid r6
            have X6 := hid x6
            clear r6 x6
            go_wp2_with fail
            refine (CC2.out _ X6.out).mono ?_
            rintro e w7 ⟨A7, c7, rfl, r7, x7⟩
            have CS := same_ints (R6.out.ext x7) r7
            rw [decide_eq_true rfl] at CS
            have CS := hid CS
            have X7 := hid (ext_trans X6.out x7)
            clear r7 x7
            go_wp2_with fail
            refine CS.out.mono ?_
            rintro e _ ⟨rfl, nq, rfl⟩
            go_wp2_with fail
            go_roundw
            case rel => exact ⟨k + 1, _, by omega, by go_num, DD.out.ext (ext_trans X7.out (ext_drewN _ _)), below_ext' BB.out BB.out.size (ext_trans X7.out (ext_drewN _ _))⟩
            case measure => simp [intOf]; omega
      · have n3 : (pk == 3) = false := by simp; omega
        have n4 : (pk == 4) = false := by simp; omega
        have n5 : (pk == 5) = false := by simp; omega
        have n6 : (pk == 6) = false := by simp; omega
        clear hpk hp3
        obtain ⟨ans, hans⟩ : ∃ x, (putS p s z1 z2 z3).2 = x := ⟨_, rfl⟩
        have CQ1 := fun W hb (d : Duo w.heap.size W p s s g h) => d_qput (fb := wr.heap.size) (cs := #[.int .i64 z0, .int .i64 z1, .int .i64 z2, .int .i64 z3]) d hb z1 z2 z3 Y1.out
        have CQ2 := fun W hb (d : Duo w.heap.size W p s (putS p s z1 z2 z3).1 g h) => d_qput (fb := wr.heap.size) (cs := #[.int .i64 z0, .int .i64 z1, .int .i64 z2, .int .i64 z3]) d hb z1 z2 z3 Y1.out
        have CR1 := fun W hb (d : Duo w.heap.size W p s s g h) => d_rput (fb := wr.heap.size) (cs := #[.int .i64 z0, .int .i64 z1, .int .i64 z2, .int .i64 z3]) d hb z1 z2 z3
        have CR2 := fun W hb (d : Duo w.heap.size W p (putS p s z1 z2 z3).1 s g h) => d_rput (fb := wr.heap.size) (cs := #[.int .i64 z0, .int .i64 z1, .int .i64 z2, .int .i64 z3]) d hb z1 z2 z3
        simp only [hans] at CQ1 CQ2 CR1 CR2
        have CQ1 := hid CQ1
        have CQ2 := hid CQ2
        have CR1 := hid CR1
        have CR2 := hid CR2
        obtain ⟨s', hs'⟩ : ∃ x, (putS p s z1 z2 z3).1 = x := ⟨_, rfl⟩
        rw [hs'] at CQ1 CQ2 CR1 CR2
        clear hans hs'
        have t1 : (ans == ans) = true := by simp
        go_wp2_with fail
        refine (CP.out _).mono ?_
        rintro e _ ⟨rfl, rfl⟩
        go_wp2_with fail
        go_region_held3 (fun W => W.cell? ⟨wr.heap.size, 1, none⟩ = some (.int .i64 z1) ∧ W.cell? ⟨wr.heap.size, 2, none⟩ = some (.int .i64 z2) ∧ W.cell? ⟨wr.heap.size, 3, none⟩ = some (.int .i64 z3)) (first | exact ⟨HB.out.cell 1, HB.out.cell 2, HB.out.cell 3⟩ | exact ⟨XB.out.drew.cell 1, XB.out.drew.cell 2, XB.out.drew.cell 3⟩ | go_keep) ((first | (go_at_call 12; first | ((with_reducible refine (CQ1.out _ XB.out.drew (D.out.ext (ext_drew _))).mono ?_); rintro e w2 ⟨rfl, d2, b2, k2⟩; have DP := hid d2; have BP := hid (Below.trans (below_ext' B.out B.out.size (ext_drew _)) b2); have HB := hid k2; clear d2 b2 k2) | ((with_reducible refine (CQ2.out _ HB.out DP.out).mono ?_); rintro e w2 ⟨rfl, d2, b2, k2⟩; have DF := hid d2; have BF := hid (Below.trans BP.out b2); have HB := hid k2; clear d2 b2 k2)) | (go_at_call 25; first | ((with_reducible refine (CR1.out _ XB.out.drew (D.out.ext (ext_drew _))).mono ?_); rintro e w2 ⟨rfl, d2, b2, k2⟩; have DP := hid d2; have BP := hid (Below.trans (below_ext' B.out B.out.size (ext_drew _)) b2); have HB := hid k2; clear d2 b2 k2) | ((with_reducible refine (CR2.out _ HB.out DP.out).mono ?_); rintro e w2 ⟨rfl, d2, b2, k2⟩; have DF := hid d2; have BF := hid (Below.trans BP.out b2); have HB := hid k2; clear d2 b2 k2))))
        all_goals
          have DD := DF
          have BB := BF
          have CL1 := d_qlen DD.out
          have CL2 := d_rlen DD.out
          have CO1 := d_qof DD.out cl h4
          have CO2 := d_rof DD.out cl
          have CC1 := d_qcli DD.out
          have CC2 := fun W (x : Ext _ W) => d_rcli (DD.out.ext x)
          obtain ⟨nl, hnl⟩ : ∃ x, lenS (s') = x := ⟨_, rfl⟩
          obtain ⟨no, hno⟩ : ∃ x, ofS (s') cl = x := ⟨_, rfl⟩
          obtain ⟨lc, hlc⟩ : ∃ x, clientsS (s') = x := ⟨_, rfl⟩
          rw [hnl] at CL1 CL2
          rw [hno] at CO1 CO2
          rw [hlc] at CC1
          simp only [hlc] at CC2
          have CL1 := hid CL1
          have CL2 := hid CL2
          have CO1 := hid CO1
          have CO2 := hid CO2
          have CC1 := hid CC1
          have CC2 := hid CC2
          have u1 : ((nl : Int) == (nl : Int)) = true := by simp
          have u2 : ((no : Int) == (no : Int)) = true := by simp
          clear hnl hno hlc
          go_wp2_with fail
          refine CL1.out.mono ?_
          rintro e _ ⟨rfl, rfl⟩
          go_wp2_with fail
          refine CL2.out.mono ?_
          rintro e _ ⟨rfl, rfl⟩
          go_wp2_with fail
          refine CO1.out.mono ?_
          rintro e _ ⟨rfl, rfl⟩
          go_wp2_with fail
          refine CO2.out.mono ?_
          rintro e _ ⟨rfl, rfl⟩
          go_wp2_with fail
          refine CC1.out.mono ?_
          rintro e w6 ⟨A6, c6, rfl, r6, x6⟩
          have R6 := hid r6
          have X6 := hid x6
          clear r6 x6
          go_wp2_with fail
          refine (CC2.out _ X6.out).mono ?_
          rintro e w7 ⟨A7, c7, rfl, r7, x7⟩
          have CS := same_ints (R6.out.ext x7) r7
          rw [decide_eq_true rfl] at CS
          have CS := hid CS
          have X7 := hid (ext_trans X6.out x7)
          clear r7 x7
          go_wp2_with fail
          refine CS.out.mono ?_
          rintro e _ ⟨rfl, nq, rfl⟩
          go_wp2_with fail
          go_roundw
          case rel => exact ⟨k + 1, _, by omega, by go_num, DD.out.ext (ext_trans X7.out (ext_drewN _ _)), below_ext' BB.out BB.out.size (ext_trans X7.out (ext_drewN _ _))⟩
          case measure => simp [intOf]; omega
    · obtain rfl : k = n := by omega
      have i1 : ¬ (k : Int) < (k : Int) := by omega
      have BB := hid bb
      clear bb dd
      go_wp2_with fail
      refine (awake_yes _).mono ?_
      rintro e w4 ⟨rfl, x4⟩
      have X4 := hid x4
      clear x4
      go_wp2_with fail
      go_ret
      exact ⟨rfl, below_ext' BB.out BB.out.size X4.out⟩
end Go.Proofs.Ytkogagpahidenaa

/- DrrFair: the walk. -/
import Derived.Test.YtkogagpahidenaaDrrJ
import Derived.Test.YtkogagpahidenaaDrrL
import Derived.IntWalk
import Derived.Deep.DeepCutAuto
namespace Go.Proofs.Ytkogagpahidenaa
open Go.BK Go.BK.DR Go.RowKit Go.Maps
set_option linter.unusedVariables false
theorem rdI_get {w w' : World} {A : Option Addr} {c : Nat} {l : List Int} (h : RdI w A c l) (hb : Below w.heap.size w w') (h0 : 0 < l.length) : ∃ b o, A = some ⟨b, o, none⟩ ∧ ∀ k, k < l.length → w'.cell? ⟨b, o + k, none⟩ = some (.int .i64 (l.getD k 0)) ∧ wfI (l.getD k 0) := by
  obtain ⟨b, o, hA, hlt, hc⟩ := rdI_at h.1 h0
  refine ⟨b, o, hA, fun k hk => ⟨(hb.cell (p := ⟨b, o + k, none⟩) hlt).trans (hc k hk), ?_⟩⟩
  have h2 : l.getD k 0 ∈ l := by simp [List.getD, hk]
  exact h.2 _ h2
def FpRel (w0 : World) (g C m : Nat) (p : Par) (n k : Value) (wr : World) : Prop := ∃ (j : Nat) (s : St), j ≤ 2 ∧ n = .int .i64 ((2 * m + j : Nat)) ∧ k = .int .i64 j ∧ QB w0.heap.size w0 wr g p s ∧ LineK m j s
def FoRel (w0 : World) (g C : Nat) (p : Par) (n c : Value) (wr : World) : Prop := ∃ (m : Nat) (s : St), m ≤ C ∧ n = .int .i64 ((2 * m : Nat)) ∧ c = .int .i64 m ∧ QB w0.heap.size w0 wr g p s ∧ Line m s
def FrRel (w0 : World) (g tb C fr upto : Nat) (p : Par) (n i : Value) (wr : World) : Prop :=
  ∃ (nn k : Nat) (s : St) (tot tf : Int → Int) (xs : List Int), n = .int .i64 nn ∧ nn ≤ 12 + k ∧ i = .int .i64 k ∧ k ≤ upto ∧ Qs (fun j => w0.heap.size ≤ j ∧ j ≠ tb) wr g p s ∧ Shy (fun j => w0.heap.size ≤ j) w0 wr ∧ Round C p tot tf k fr s ∧
    tb < wr.heap.size ∧ Blk wr tb 3 (intsV xs).toArray ∧ xs.length = C ∧ ∀ j : Nat, j < C → xs.getD j 0 = tot j - tf j
def CutF (w0 : World) (g tb C : Nat) (p : Par) (s : St) (xs : List Int) (wx : World) : Prop :=
  Qs (fun j => w0.heap.size ≤ j ∧ j ≠ tb) wx g p s ∧ Shy (fun j => w0.heap.size ≤ j) w0 wx ∧ tb < wx.heap.size ∧ Blk wx tb 3 (intsV xs).toArray
theorem own_blk {ok : Value → Prop} {w : World} {base n g : Nat} {e : TypeId} {xs : List Value} (h : OwnG ok w base e 1 (some ⟨g, 0, none⟩) n n xs) : Blk w g e xs.toArray := by
  rcases h with ⟨h, _⟩ | ⟨g', full, hA, _, hg, hf, _, _, ht, _⟩
  · cases h
  · injection hA with hA
    injection hA with hA
    subst hA
    rw [List.take_of_length_le (by omega)] at ht
    subst ht
    exact hg
set_option maxHeartbeats 8000000 in
set_option maxRecDepth 100000 in
theorem fair_walk {A : Option Addr} {c : Nat} {l : List Int} (a0 a1 a2 fr up : Int) (w : World) (h0 : wfI a0) (h1 : wfI a1) (h2 : wfI a2) (hl : RdI w A c l) (h4 : wfI fr) (h5 : wfI up) :
    Calls Try.prog 3 #[.int .i64 a0, .int .i64 a1, .int .i64 a2, .slice A l.length c, .int .i64 fr, .int .i64 up] w fun e w' => e = .returned (.bool true) ∧ Below w.heap.size w w' := by
  obtain ⟨s1, s2, s3, s4⟩ := shape_ok 0 0 a1 a2
  have CS := fun W => shape_any 0 0 a1 a2 W ⟨by decide, by decide⟩ ⟨by decide, by decide⟩ h1 h2
  obtain ⟨ps, hps⟩ : ∃ p, shapeP 0 0 a1 a2 = p := ⟨_, rfl⟩
  rw [hps] at s1 s2 s3 s4 CS
  have hpk0 := pick_range a0 5 (by decide)
  have CP0 := fun W => pick_any a0 5 W h0 (by decide)
  obtain ⟨pk0, epk0⟩ : ∃ pk : Nat, pick a0 5 = pk := ⟨(pick a0 5).toNat, by omega⟩
  rw [epk0] at hpk0 CP0
  obtain ⟨C, hC⟩ : ∃ C, C = 2 + pk0 := ⟨_, rfl⟩
  have hCi : (2 : Int) + (pk0 : Int) = (C : Int) := by omega
  have hC6 : 2 ≤ C ∧ C ≤ 6 := by omega
  have hpp := s1
  unfold Par.ok at hpp
  obtain ⟨q, hq⟩ : ∃ q, ps.quantum = q := ⟨_, rfl⟩
  obtain ⟨mo, hmo⟩ : ∃ m, ps.most = m := ⟨_, rfl⟩
  rw [hq] at s4 hpp CS
  rw [hmo] at hpp CS
  have P1 : (⟨C, 2, q, mo⟩ : Par).ok := by unfold Par.ok; simp only; omega
  have CN := hid (fun W => q_new C 2 q mo W P1)
  have CS := hid CS
  have CP0 := hid CP0
  have P1 := hid P1
  have hn9 := hl.1.n_le
  have HL := hid hl
  obtain ⟨n, hn⟩ : ∃ n, l.length = n := ⟨_, rfl⟩
  rw [hn] at hn9 ⊢
  have HN := hid hn
  have hm40 : mo ≤ 40 := by omega
  clear hps hl h0 h1 h2 s1 s2 s3 hq hmo epk0 hC hn
  go_enter Try.func3, Try.ntmps3
  go_wp2_with fail
  refine (awake_yes w).mono ?_
  rintro e w0 ⟨rfl, x0⟩
  have X0 := hid x0
  clear x0
  go_wp2_with fail
  refine (CP0.out w0).mono ?_
  rintro e _ ⟨rfl, rfl⟩
  go_wp2_with fail
  refine (CS.out w0).mono ?_
  rintro e _ ⟨rfl, rfl⟩
  by_cases hn0 : n = 0
  · subst hn0
    go_wp2_with fail
    go_ret
    exact ⟨rfl, X0.out⟩
  have hnb : ((n : Int) == 0) = false := by simp; omega
  by_cases hn60 : 60 < n
  · have q1 : decide ((60 : Int) < (n : Int)) = true := by simp; omega
    go_wp2_with fail
    go_ret
    exact ⟨rfl, X0.out⟩
  have q1 : decide ((60 : Int) < (n : Int)) = false := by simp; omega
  have hnp : 0 < n := by omega
  have hnz : ¬ (n : Int) = 0 := by omega
  clear hn0 hn60
  go_wp2_with fail
  refine (CN.out w0).mono ?_
  rintro e w1 ⟨g, rfl, hq, hx⟩
  have Q1 : Hid (QB w0.heap.size w0 w1 g ⟨C, 2, q, mo⟩ ⟨[], false⟩) := hid ⟨hq, hx, hx.size⟩
  clear hq hx
  go_wp2_with fail
  go_loopw [16, 17] (fun n c wr => FoRel w0 g C ⟨C, 2, q, mo⟩ n c wr) (fun _ c _ => C - (intOf c).toNat)
  case atStart => exact ⟨0, _, Nat.zero_le _, rfl, rfl, Q1.out, line_nil⟩
  case round =>
    obtain ⟨m, s, hm, rfl, rfl, hqb, hline⟩ := hrel
    by_cases hlt : m < C
    · have i1 : (m : Int) < (C : Int) := by omega
      have HQB := hid hqb
      have HLN := hid hline
      clear hqb hline
      go_wp2_with fail
      go_loopw [16, 18] (fun n k wr => FpRel w0 g C m ⟨C, 2, q, mo⟩ n k wr) (fun _ k _ => 2 - (intOf k).toNat)
      case atStart => exact ⟨0, s, by omega, rfl, rfl, HQB.out, HLN.out⟩
      case round =>
        obtain ⟨j, s', hj, rfl, rfl, hqb, hlk⟩ := hrel
        by_cases hj2 : j < 2
        · have i2 : (j : Int) < 2 := by omega
          obtain ⟨b, o, rfl, hc⟩ := rdI_get HL.out (Below.trans X0.out (hqb.2.1.mono X0.out.size)) (by rw [HN.out]; exact hnp)
          rw [HN.out] at hc
          have hjk : (2 * m + j) % n < n := Nat.mod_lt _ hnp
          obtain ⟨c0, y0⟩ := hc _ hjk
          have htm : ((2 * m + j : Nat) : Int).tmod (n : Int) = (((2 * m + j) % n : Nat) : Int) := rfl
          obtain ⟨jk, ejk⟩ : ∃ jk, (2 * m + j) % n = jk := ⟨_, rfl⟩
          rw [ejk] at c0 y0 htm hjk
          obtain ⟨z0, e0⟩ : ∃ z, l.getD jk 0 = z := ⟨_, rfl⟩
          rw [e0] at c0 y0
          obtain ⟨nn, enn⟩ : ∃ nn : Nat, 2 * m + j = nn := ⟨_, rfl⟩
          rw [enn] at htm ⊢
          have i4 : (jk : Int) < (n : Int) := by omega
          have hnn : nn ≤ 20 := by omega
          have CP := hid (pick_any z0 mo wr y0 (by omega))
          have hpk := pick_range z0 mo (by omega)
          obtain ⟨pk, epk⟩ : ∃ z, pick z0 mo = z := ⟨_, rfl⟩
          rw [epk] at CP hpk
          have hput := line_put (p := ⟨C, 2, q, mo⟩) (w := 1 + pk) hqb.1.2.1 hlk hj2 (by simp only; omega) rfl (by simp only; omega)
          have CU := qb_put hqb m (1 + pk) (1 + pk) (wf_small _ (by omega))
          rw [hput.1] at CU
          have CU := hid CU
          have HLK := hid hput.2
          clear hc e0 epk y0 ejk hqb hlk hput
          go_wp2_with fail
          refine CP.out.mono ?_
          rintro e _ ⟨rfl, rfl⟩
          go_wp2_with fail
          refine CU.out.mono ?_
          rintro e w2 ⟨rfl, hq2⟩
          have Q2 := hid hq2
          clear hq2
          go_wp2_with fail
          go_roundw
          case rel => exact ⟨j + 1, _, by omega, by rw [← enn]; go_num, by go_num, Q2.out, HLK.out⟩
          case measure => simp [intOf]; omega
        · obtain rfl : j = 2 := by omega
          have HQB2 := hid hqb
          have HLK := hid hlk
          have hnn : 2 * m + 2 ≤ 20 := by omega
          clear hqb hlk
          go_wp2_with fail
          go_roundw
          case rel => exact ⟨m + 1, s', by omega, by congr 1, by go_num, HQB2.out, HLK.out⟩
          case measure => simp [intOf]; omega
    · obtain rfl : C = m := by omega
      have HQB := hid hqb
      have HLN := hid hline
      have i1 : ¬ (C : Int) < (C : Int) := by omega
      have CP1 := hid (pick_any fr 200 wr h4 (by decide))
      have hpf := pick_range fr 200 (by decide)
      obtain ⟨fN, efN⟩ : ∃ k : Nat, pick fr 200 = k := ⟨(pick fr 200).toNat, by omega⟩
      rw [efN] at CP1 hpf
      have CP2 := hid (pick_any up (201 - (fN : Int)) wr h5 (by omega))
      have hpu := pick_range up (201 - (fN : Int)) (by omega)
      obtain ⟨uN, euN⟩ : ∃ k : Nat, pick up (201 - (fN : Int)) = k := ⟨(pick up (201 - (fN : Int))).toNat, by omega⟩
      rw [euN] at CP2 hpu
      obtain ⟨i0, hi, hz0, hz1, hz2⟩ := info_parts info_int
      have hbz := hqb.2.2
      clear hqb hline efN euN
      go_wp2_with fail
      refine CP1.out.mono ?_
      rintro e _ ⟨rfl, rfl⟩
      go_wp2_with fail
      refine CP2.out.mono ?_
      rintro e _ ⟨rfl, rfl⟩
      obtain ⟨tb, htb⟩ : ∃ tb, wr.heap.size = tb := ⟨_, rfl⟩
      have htb0 : w0.heap.size ≤ tb := by omega
      go_wp2_with (at_make; go_must (refine wpList_make_g (ok := isI) (n := C) (m := C) rfl (.tmp 97) (.tmp 97) 22 rfl wr.heap.size 3 i0 (.int .i64 0) 8 Try.underlying22 hi hz0 hz1 hz2 rfl ⟨0, rfl⟩ .i64 .i64 rfl rfl rfl rfl (Nat.le_refl _) (by omega) (by unfold maxLen; omega) (Nat.le_refl _) ?_; intro w5 o5 x5 z5; have B5 := own_blk o5; have hs5 : tb < w5.heap.size := (by omega); have Q5 : Hid (Qs (fun j => w0.heap.size ≤ j ∧ j ≠ tb) w5 g ⟨C, 2, q, mo⟩ s) := hid ((HQB.out.1.mono fun k hk e => ⟨e, by omega⟩).ext x5); have S5 : Hid (Below w0.heap.size w0 w5) := hid (Below.trans HQB.out.2.1 (x5.mono hbz)); rw [htb] at B5; have B5 := hid B5; clear o5 x5 z5))
      have R5 : Hid (Round C ⟨C, 2, q, mo⟩ (fun _ => 0) (fun _ => 0) 0 fN s) := hid (round_start P1.out HLN.out)
      have B5' : Hid (Blk w5 tb 3 (intsV (List.replicate C 0)).toArray) := hid (by have := B5.out; simpa [intsV] using this)
      have hu200 : fN + uN ≤ 200 := by omega
      clear htb B5
      go_loopw [16, 21] (fun n i wr => FrRel w0 g tb C fN (fN + uN) ⟨C, 2, q, mo⟩ n i wr) (fun _ i _ => (fN + uN) - (intOf i).toNat)
      case atStart =>
        refine ⟨2 * C, 0, s, _, _, List.replicate C 0, rfl, by omega, rfl, Nat.zero_le _, Q5.out, ⟨S5.out.os, S5.out.tape, S5.out.output, S5.out.size, fun j hj _ => S5.out.block j hj⟩, R5.out, hs5, B5'.out, by simp, fun j hj => by simp [List.getD, hj]⟩
      case round =>
        obtain ⟨nn, k, sk, tot, tf, xs, rfl, hnn, rfl, hk, hqs, hsh, hrd, htb, hbl, hxl, hxs⟩ := hrel
        by_cases hlt2 : k < fN + uN
        · have i2 : (k : Int) < (fN : Int) + (uN : Int) := by omega
          obtain ⟨cc, kk, hc, hkk, hnx, hput⟩ := round_step P1.out hqs.2.1 hrd (by omega) rfl (by simp only; omega)
          simp only at hkk hput
          have hnew : ∀ W : World, wr.heap.size ≤ W.heap.size → ∀ x, W.heap.size ≤ x → w0.heap.size ≤ x ∧ x ≠ tb := fun W hW x hx => by
            have := hsh.size
            exact ⟨by omega, by omega⟩
          have CX := qu_next hqs (hnew wr (Nat.le_refl _))
          rw [hnx] at CX
          simp only [tellV] at CX
          have CX := hid CX
          obtain ⟨cN, rfl⟩ : ∃ cN : Nat, cc = cN := ⟨cc.toNat, by omega⟩
          have hcN : cN < C := by omega
          have hxc : (intsV xs).toArray[cN]? = some (.int .i64 (xs.getD cN 0)) := by simp [intsV, List.getD, hxl, hcN]
          have hlow := hrd.low cN
          have hxe := hxs cN hcN
          obtain ⟨xv, exv⟩ : ∃ xv, xs.getD cN 0 = xv := ⟨_, rfl⟩
          rw [exv] at hxc hxe
          have hxb : 0 ≤ xv ∧ xv ≤ 40 * (k : Int) := by omega
          have w1 : IntKind.i64.wrap (xv + kk) = xv + kk := IntWalk.i64_in _ (by omega)
          -- the next cost
          have hb5 : Below w.heap.size w wr := Below.trans X0.out (hsh.below (X0.out.size) fun j hj e => by have := X0.out.size; omega)
          obtain ⟨b, o, hA0, hcs⟩ := rdI_get HL.out hb5 (by rw [HN.out]; exact hnp)
          rw [HN.out] at hcs
          have hjk : nn % n < n := Nat.mod_lt _ hnp
          obtain ⟨_, y0⟩ := hcs _ hjk
          have htm : ((nn : Nat) : Int).tmod (n : Int) = ((nn % n : Nat) : Int) := rfl
          obtain ⟨jk, ejk⟩ : ∃ jk, nn % n = jk := ⟨_, rfl⟩
          rw [ejk] at y0 htm hjk
          obtain ⟨z0, e0⟩ : ∃ z, l.getD jk 0 = z := ⟨_, rfl⟩
          rw [e0] at y0
          have CP := hid (fun W => pick_any z0 mo W y0 (by omega))
          have hpk := pick_range z0 mo (by omega)
          obtain ⟨pk, epk⟩ : ∃ z, pick z0 mo = z := ⟨_, rfl⟩
          rw [epk] at CP hpk
          obtain ⟨hp0, tf', hrd', hge, hlt'⟩ := hput (1 + pk) (by omega)
          have HC : Hid (∀ W, Below w.heap.size w W → W.cell? ⟨b, o + jk, none⟩ = some (.int .i64 z0)) := hid (fun W hW => by
            obtain ⟨b', o', hA1, hcs'⟩ := rdI_get HL.out hW (by rw [HN.out]; exact hnp)
            rw [hA0] at hA1
            injection hA1 with hA1
            injection hA1 with r1 r2
            subst r1; subst r2
            rw [HN.out] at hcs'
            rw [← e0]
            exact (hcs' jk hjk).1)
          subst hA0
          have i4 : (jk : Int) < (n : Int) := by omega
          obtain ⟨xs', hxs'⟩ : ∃ xs', (if fN ≤ k then xs.set cN (xv + kk) else xs) = xs' := ⟨_, rfl⟩
          have hxl' : xs'.length = C := by rw [← hxs']; split <;> simp [hxl]
          have hxg : ∀ j : Nat, j < C → xs'.getD j 0 = addT tot cN kk j - tf' j := by
            intro j hj
            rw [← hxs']
            by_cases hfk : fN ≤ k
            · rw [if_pos hfk, hge hfk]
              by_cases hjc : j = cN
              · subst hjc
                simp [addT, List.getD, hxl, hcN]
                omega
              · have e1 := hxs j hj
                simp only [List.getD, List.getElem?_set] at e1 ⊢
                rw [if_neg (fun e => hjc e.symm)]
                rw [e1]
                unfold addT
                rw [if_neg (by omega)]
            · rw [if_neg hfk]
              obtain ⟨t1, t2⟩ := hlt' (by omega)
              rw [t1]
              have e1 := hxs j hj
              rw [t2] at e1
              omega
          have HXG := hid hxg
          have HXL := hid hxl'
          have HXS := hid hxs'
          have HRD := hid hrd'
          have HQS := hid hqs
          have HSH := hid hsh
          have HTB := hid htb
          have HBL := hid hbl
          have HXC := hid hxc
          have HP0 := hid hp0
          have HWR := hid hnew
          clear hrd hput hnx hqs hsh hbl hxl hxs hlow exv hxc hb5 hcs ejk y0 e0 epk hp0 hrd' hge hlt' hxs' hxl' hxg htb hxe hnew
          have nc1 : ¬ (cN : Int) < 0 := by omega
          have nc2 : ¬ (C : Int) ≤ (cN : Int) := by omega
          have nc3 : ¬ kk < 1 := by omega
          have nc4 : ¬ mo < kk := by omega
          go_wp2_with fail
          refine CX.out.mono ?_
          rintro e w6 ⟨rfl, q6, s6⟩
          have htw6 : tb < w6.heap.size := Nat.lt_of_lt_of_le HTB.out s6.size
          have b6 : Blk w6 tb 3 (intsV xs).toArray := HBL.out.shy s6 fun e => e.2 rfl
          have Q6 := hid q6
          have S6 : Hid (Shy (fun j => w0.heap.size ≤ j) w0 w6) := hid (HSH.out.trans (s6.mono fun _ _ e => e.1) fun _ _ h => h)
          have f6 : w6.cell? ⟨tb, cN, none⟩ = some (.int .i64 xv) := by rw [b6.cell]; exact HXC.out
          have ff6 := b6.frozen
          have HZ6 := hid s6.size
          have B6 := hid b6
          clear q6 s6 b6
          go_upto_if 132 with (fail)
          go_cut [] (fun wx => CutF w0 g tb C ⟨C, 2, q, mo⟩ (nextS ⟨C, 2, q, mo⟩ sk).1 xs' wx)
          case first =>
            by_cases hfk : fN ≤ k
            · have hx2 := HXS.out
              rw [if_pos hfk] at hx2
              have HX2 := hid hx2
              have i5 : (fN : Int) ≤ (k : Int) := by omega
              clear hx2
              go_wp2_with fail
              go_meet
              have hb7 := B6.out.set_ cN (.int .i64 (xv + kk))
              refine ⟨Q6.out.shy (set_shy tb cN _ w6) (fun _ _ e h => e.2 h), S6.out.set (b := tb) (fun hh => by omega) cN _, by simpa [World.setCell] using htw6, ?_⟩
              rw [← HX2.out]
              have e7 : (intsV xs).toArray.setIfInBounds cN (.int .i64 (xv + kk)) = (intsV (xs.set cN (xv + kk))).toArray := by simp [intsV, List.map_set]
              rw [← e7]
              exact hb7
            · have hx2 := HXS.out
              rw [if_neg hfk] at hx2
              have HX2 := hid hx2
              have i5 : ¬ (fN : Int) ≤ (k : Int) := by omega
              clear hx2
              go_wp2_with fail
              go_meet
              refine ⟨Q6.out, S6.out, htw6, ?_⟩
              rw [← HX2.out]
              exact B6.out
          case rest =>
            obtain ⟨q7, s7, t7, b7⟩ := hcut
            have c7 := HC.out wc (Below.trans X0.out (s7.below X0.out.size fun j hj e => by have := X0.out.size; omega))
            have CU := qu_put q7 (fun x hx => by have := s7.size; exact ⟨by omega, by omega⟩) cN (1 + pk) (1 + pk) (wf_small _ (by omega))
            rw [HP0.out] at CU
            have CU := hid CU
            have S7 := hid s7
            have B7 := hid b7
            clear q7 s7 b7 f6 ff6
            go_wp2_with fail
            refine (CP.out _).mono ?_
            rintro e _ ⟨rfl, rfl⟩
            go_wp2_with fail
            refine CU.out.mono ?_
            rintro e w8 ⟨rfl, q8, s8⟩
            have Q8 := hid q8
            have S8 := hid s8
            clear q8 s8
            go_wp2_with fail
            go_roundw
            case rel => exact ⟨nn + 1, k + 1, _, _, _, xs', by go_num, by omega, by go_num, by omega, Q8.out, S7.out.trans (S8.out.mono fun _ _ e => e.1) fun _ _ h => h, HRD.out, Nat.lt_of_lt_of_le t7 S8.out.size, B7.out.shy S8.out fun e => e.2 rfl, HXL.out, HXG.out⟩
            case measure => simp [intOf]; omega
        · obtain rfl : k = fN + uN := by omega
          have hbnd : ∀ a b : Nat, a < C → b < C → xs.getD a 0 - xs.getD b 0 ≤ 2 * q + 2 * mo ∧ 0 ≤ xs.getD a 0 ∧ xs.getD a 0 ≤ 8000 := by
            intro a b ha hb
            have h1 := round_bound P1.out hqs.2.1 hrd (a := a) (b := b) ⟨by omega, by omega⟩ ⟨by omega, by omega⟩
            simp only at h1
            have h2 := hrd.low a
            rw [hxs a ha, hxs b hb]
            refine ⟨h1, h2.1, ?_⟩
            have : (fN + uN : Nat) ≤ 200 := hu200
            omega
          have HBD := hid hbnd
          have HSH := hid hsh
          have HCL : Hid (∀ a, a < C → wr.cell? ⟨tb, a, none⟩ = some (.int .i64 (xs.getD a 0))) := hid (fun a ha => by
            rw [hbl.cell]
            simp [intsV, List.getD, hxl, ha])
          have i2 : ¬ ((fN : Int) + (uN : Int)) < (fN : Int) + (uN : Int) := by omega
          clear hbnd hsh hqs hrd hbl hxs
          obtain ⟨wz, hwz⟩ : ∃ x, x = wr := ⟨_, rfl⟩
          subst hwz
          go_wp2_with fail
          go_loopw [26] (fun i wx => ∃ a nq : Nat, a ≤ C ∧ i = .int .i64 a ∧ wx = wz.drewN nq) (fun i _ => C - (intOf i).toNat)
          case atStart => exact ⟨0, 0, Nat.zero_le _, rfl, rfl⟩
          case round =>
            obtain ⟨a, n0, ha, rfl, hw⟩ := hrel
            have HW := hid hw
            clear hw
            by_cases hac : a < C
            · have i6 : (a : Int) < (C : Int) := by omega
              go_wp2_with fail
              go_loopw [27] (fun i wx => ∃ b nq : Nat, b ≤ C ∧ i = .int .i64 b ∧ wx = wz.drewN nq) (fun i _ => C - (intOf i).toNat)
              case atStart => exact ⟨0, n0, Nat.zero_le _, rfl, HW.out⟩
              case round =>
                obtain ⟨b2, n1, hb, rfl, hw⟩ := hrel
                have HW1 := hid hw
                by_cases hbc : b2 < C
                · have i7 : (b2 : Int) < (C : Int) := by omega
                  have f1 : wr.cell? ⟨tb, a, none⟩ = some (.int .i64 (xs.getD a 0)) := by rw [hw]; exact HCL.out a hac
                  have f2 : wr.cell? ⟨tb, b2, none⟩ = some (.int .i64 (xs.getD b2 0)) := by rw [hw]; exact HCL.out b2 hbc
                  obtain ⟨k1, k2, k3⟩ := HBD.out a b2 hac hbc
                  obtain ⟨_, k4, k5⟩ := HBD.out b2 a hbc hac
                  obtain ⟨xa, exa⟩ : ∃ x, xs.getD a 0 = x := ⟨_, rfl⟩
                  obtain ⟨xb, exb⟩ : ∃ x, xs.getD b2 0 = x := ⟨_, rfl⟩
                  rw [exa] at f1 k1 k2 k3
                  rw [exb] at f2 k1 k4 k5
                  have v1 : wrap64 (2 * q) = 2 * q := IntWalk.wrap64_in _ (by omega)
                  have v2 : wrap64 (2 * mo) = 2 * mo := IntWalk.wrap64_in _ (by omega)
                  have v3 : wrap64 (2 * q + 2 * mo) = 2 * q + 2 * mo := IntWalk.wrap64_in _ (by omega)
                  have v4 : wrap64 (xa - xb) = xa - xb := IntWalk.wrap64_in _ (by omega)
                  have nb : ¬ (2 * q + 2 * mo < xa - xb) := by omega
                  clear hw exa exb
                  go_wp2_with fail
                  go_quiet (fail)
                  go_wp2_with fail
                  go_roundw
                  case rel => exact ⟨b2 + 1, n1 + nq, by omega, by go_num, by rw [HW1.out]; exact drewN_two _ _ _⟩
                  case measure => simp [intOf]; omega
                · obtain rfl : C = b2 := by omega
                  have i7 : ¬ (C : Int) < (C : Int) := by omega
                  clear hw
                  go_wp2_with fail
                  go_roundw
                  case rel => exact ⟨a + 1, n1, by omega, by go_num, HW1.out⟩
                  case measure => simp [intOf]; omega
            · obtain rfl : C = a := by omega
              have i6 : ¬ (C : Int) < (C : Int) := by omega
              go_wp2_with fail
              go_ret
              refine ⟨rfl, ?_⟩
              rw [HW.out]
              exact Below.trans (Below.trans X0.out (HSH.out.below X0.out.size fun j hj e => by have := X0.out.size; omega)) ((ext_drewN wz n0).mono (Nat.le_trans X0.out.size HSH.out.size))
end Go.Proofs.Ytkogagpahidenaa

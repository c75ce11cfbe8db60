/- Packer.Name, where the name may be. -/
import Derived.Test.YtfimfmghfjokjaaPakR
import Derived.Deep.CutBlock
import Derived.Deep.DeepCutAuto
namespace Go.Proofs.Ytfimfmghfjokjaa
open Go.BK Go.RowKit Go.Maps Go.BK.NM
set_option linter.unusedVariables false

def PakRel (w1 : World) (g mb : Nat) (T : Tails) (e at_ : Nat) (Ls : List Bs) (out tail : Value) (wr : World) : Prop :=
  ∃ (J L : List Bs) (A : Option Addr) (c : Nat) (F : Tails), Ls = J ++ L ∧ tail = .string (str (wire L)) ∧ out = .slice A (flat J).length c ∧ BK.Own wr (w1.heap.size + 1) 5 A c (flat J) ∧ MapF Try.prog wr 9 w1.heap.size (tabT F) F.length ∧ PackW wr g mb T e ∧
    Ext w1 wr ∧ w1.heap.size < wr.heap.size ∧ packL T at_ 0 Ls = (flat J ++ (packL T at_ (flat J).length L).1, F ++ (packL T at_ (flat J).length L).2)
def PakEnd (w1 : World) (g mb : Nat) (T : Tails) (e : Nat) (R : Bs × Tails) (out : Value) (wr : World) : Prop :=
  ∃ (A : Option Addr) (c : Nat), out = .slice A R.1.length c ∧ BK.Own wr (w1.heap.size + 1) 5 A c R.1 ∧ MapF Try.prog wr 9 w1.heap.size (tabT R.2) R.2.length ∧ PackW wr g mb T e ∧ Ext w1 wr ∧ w1.heap.size < wr.heap.size

theorem grownBy_setAt (w : World) (g i : Nat) (v : Value) : w.grownBy (w.setCell ⟨g, i, none⟩ v) (some g) :=
  grown_of_set (grown_refl w (some g)) (.inl rfl) i v

set_option maxHeartbeats 4000000 in
set_option maxRecDepth 100000 in
theorem name_ok {w : World} {g mb e : Nat} {T : Tails} (at_ : Nat) (Ls : List Bs) (h : PackW w g mb T e) (hL : okL Ls) (hl : (wire Ls).length ≤ 255) (ha : at_ ≤ 65535) (he : e ≤ at_) (hT : T.length ≤ 1000000) {R : Bs × Tails} (hR : packL T at_ 0 Ls = R) :
    Calls Try.prog 19 #[.pointer (some ⟨g, 0, none⟩), .int .i64 at_, .string (str (wire Ls))] w fun e' w' => ∃ A c, e' = .returned (.tuple #[.slice A R.1.length c, .int .i64 0]) ∧ BK.Own w' w.heap.size 5 A c R.1 ∧ PackW w' g mb (T ++ R.2) (at_ + R.1.length) ∧ Shy (fun k => k = g ∨ k = mb) w w' := by
  obtain ⟨i0, hi, hz0, hz1, hz2⟩ := info_parts info_u8
  obtain ⟨c0, c1, cf⟩ := h.1.two
  have hq := run_eql_map_nil (P := Try.prog) w 45 _ _ (some mb) Try.underlying45
  have hmm := @run_makeMap Try.prog
  have CC := hid (check_in (wire Ls) w (by omega))
  rw [show checkS (wire Ls) = 0 from by unfold checkS; rw [labels_ok (labS_wire hL) hl]] at CC
  have H := hid h
  have HL := hid (And.intro hL (And.intro hl hR))
  clear h hL hl hR
  go_enter Try.func19, Try.ntmps19
  go_wp2_with fail
  refine CC.out.mono ?_
  rintro e' w1 ⟨rfl, x1⟩
  have X1 := hid x1
  obtain ⟨d0, d1, df⟩ := (H.out.1.ext x1).two
  clear x1 c0 c1 cf hq
  have z1 : decide ((at_ : Int) < 0) = false := by simp
  have z2 : decide ((65535 : Int) < (at_ : Int)) = false := by simp; omega
  have z3 : decide (at_ < e) = false := by simp; omega
  have M0 := hid (MapF.made w1 Try.prog 9)
  have hzA : (w1.alloc (Obj.map #[] 0)).heap.size = w1.heap.size + 1 := by simp
  have hx1 := hid (ext_alloc w1 (Obj.map #[] 0))
  have hP1 := hid ((H.out.ext X1.out).ext hx1.out)
  go_upto_block 1 with (fail)
  go_cut [9] (fun out wx => PakEnd w1 g mb T e R out wx)
  case first =>
    go_wp2_with fail
    go_loopw [9, 11] (fun out tail wr => PakRel w1 g mb T e at_ Ls out tail wr) (fun _ tail _ => match tail with | .string s => s.size | _ => 0)
    case atStart =>
      refine ⟨[], Ls, none, 0, [], rfl, rfl, rfl, BK.Own.nil _ _ _, M0.out.congr (fun x => by cases x <;> rfl), hP1.out, hx1.out, by simp, ?_⟩
      simp [flat_nil]
    case round =>
      obtain ⟨J, L, A, c, F, hJ, rfl, rfl, hown, hM, hP, hE, hzr, hpk⟩ := hrel
      have hown' : OwnG isU8 wr (w1.heap.size + 1) 5 1 A (flat J).length c ((flat J).map u8v) := hown
      have hJl : (flat J).length ≤ 255 := by have := HL.out.2.1; rw [wire_len, hJ, flat_append] at this; simp at this; omega
      obtain ⟨p0, p1, pf⟩ := hP.1.two
      have HO := hid hown'
      have HM := hid hM
      have HP := hid hP
      have HE := hid hE
      have HK := hid hpk
      have HJ := hid hJ
      clear hown hown' hM hP hE hpk hJ hmm
      have hgl : g < w1.heap.size := (H.out.1.ext X1.out).lt
      have hml : mb < w1.heap.size := (H.out.2.1.ext X1.out).lt
      have nA : ∀ k, k ≤ w1.heap.size → some k ≠ blk A := fun k hk e => by have := (HO.out.lt k e.symm).1; omega
      have NA := hid nA
      clear nA
      rcases L with _ | ⟨s, L⟩
      · obtain ⟨t, ht⟩ : ∃ t, t = str (wire []) := ⟨_, rfl⟩
        rw [← ht]
        have hss : 0 < t.size := by rw [ht]; decide
        have h0s : t[0]'hss = 0 := by subst ht; rfl
        clear ht
        go_wp2_with (at_builtin; go_must (refine wpList_append_1' rfl (.tmp 58) (.tmp 59) 22 rfl (w1.heap.size + 1) 5 i0 (.int .u8 0) 1 Try.underlying22 hi hz0 hz1 hz2 rfl ⟨0, rfl⟩ (fun _ h => h.one) rfl HO.out (u8v 0) (by rfl) ⟨_, rfl⟩ (by omega) (by unfold maxLen; omega) (by omega) ?_); intro A5 c5 w5 o5 g5 x5 n5)
        go_meet
        have hRR : R = (flat J ++ [0], F) := by rw [← HL.out.2.2, HK.out, packL_nil]; simp
        rw [hRR]
        have z5 := g5.size
        refine ⟨A5, c5, by simp, ?_, HM.out.kept g5 (NA.out _ (Nat.le_refl _)), ?_, Below.grown HE.out g5 (by omega) (fun k hk => by have := (HO.out.lt k hk).1; omega), by omega⟩
        · unfold BK.Own
          simpa using o5
        · exact HP.out.shy (shy_of_grown g5) (fun e => NA.out _ (by omega) e.symm) (fun e => NA.out _ (by omega) e.symm)
      · have hs0 := HL.out.1 s (by rw [HJ.out]; simp)
        obtain ⟨y1, y2⟩ := size_of_label hs0
        obtain ⟨c0, hc0⟩ : ∃ c0, c0 = UInt8.ofNat s.length := ⟨_, rfl⟩
        rw [← hc0] at y1 y2
        have hwl : (wire (s :: L)).length ≤ 255 := by
          have := HL.out.2.1
          rw [HJ.out, wire_append] at this
          simp at this
          omega
        have hwc : wire (s :: L) = c0 :: s ++ wire L := by rw [wire_cons, hc0]
        obtain ⟨t, ht⟩ : ∃ t, t = str (wire (s :: L)) := ⟨_, rfl⟩
        have htz : t.size = 1 + s.length + (wire L).length := by rw [ht, str_size, hwc]; simp; omega
        have hss : 0 < t.size := by omega
        have h0s : t[0]'hss = c0 := by subst ht; simp [hwc, str]; rfl
        have he1 : t.extract 0 (1 + c0.toNat) = str (c0 :: s) := by
          rw [ht, hwc, y1]; apply ByteArray.ext; simp [str, Nat.add_comm 1]
        have he2 : t.extract (1 + c0.toNat) t.size = str (wire L) := by
          rw [htz, ht, hwc, y1]; apply ByteArray.ext; simp [str, Nat.add_comm 1]
        have c63 : c0.toNat ≤ 63 := by omega
        have cb1 : 1 + c0.toNat ≤ t.size := by omega
        have zc : ((c0.toNat : Int) == 0) = false := by rw [beq_eq_false_iff_ne]; omega
        have w2 : (1 + (c0.toNat : Int)).toNat = 1 + c0.toNat := by omega
        have hkey := key_str (wire (s :: L)) (by unfold maxLen; omega)
        have hl := HP.out.2.1.look (t := 45) keyedS Try.underlying45 (zero_int wr) hkey true
        rw [tabT_str] at hl
        rw [← ht] at hl hkey ⊢
        have HT := hid ht
        have HZ := hid htz
        have HC := hid (And.intro hc0 (And.intro y1 hwc))
        have HKEY := hid hkey
        clear ht htz hc0 y1 y2 hwc hkey hs0
        cases hk : lookT T (wire (s :: L)) with
        | some k =>
          have hk4 := (HP.out.2.2.2 _ (look_mem hk)).1
          rw [hk] at hl
          simp only [Option.map_some, Option.getD_some, Option.isSome_some, if_true] at hl
          have hor := or_top k hk4
          have HKK := hid hk
          have h2o : (flat J).length + 2 ≤ 300 := by omega
          clear hk
          go_wp2_with fail
          refine (put_ptr k hk4 _).mono ?_
          rintro e2 w2' ⟨A2, c2, rfl, o2, x2⟩
          have r2 : RdG w2' 1 A2 2 c2 ([UInt8.ofNat (192 + k / 256), UInt8.ofNat (k % 256)].map u8v) := o2.rd
          have HO2 := hid (HO.out.ext x2)
          have HR2 := hid r2
          have hz2' := x2.size
          have X2 := hid x2
          clear o2 r2 x2 hl hor p0 p1 pf
          go_wp2_with ((with_reducible show wpList _ _ _ (⟨some 79, _, _, _, _, _⟩ :: _) _ _); go_must (refine wpList_append_g (by rfl) (.tmp 77) (.tmp 78) 22 rfl (w1.heap.size + 1) 5 i0 (.int .u8 0) 1 1 Try.underlying22 hi hz0 hz1 hz2 rfl (by decide) (by simp [Value.cells]; exact ⟨0, rfl⟩) (fun _ h => h.one) rfl HO2.out rfl HR2.out (isU8_map _) (by omega) (by unfold maxLen; omega) (by omega) ?_); intro A3 c3 w3 o3 g3 y3)
          go_meet
          have hRR : R = (flat J ++ [UInt8.ofNat (192 + k / 256), UInt8.ofNat (k % 256)], F) := by rw [← HL.out.2.2, HK.out, packL_hit HKK.out]; simp
          rw [hRR]
          have z5 := g3.size
          refine ⟨A3, c3, by simp, ?_, (HM.out.ext X2.out).kept g3 (NA.out _ (Nat.le_refl _)), ?_, Below.grown (ext_trans HE.out X2.out) g3 (by omega) (fun k hk => by have := (HO.out.lt k hk).1; omega), by omega⟩
          · unfold BK.Own
            simpa using o3
          · exact (HP.out.ext X2.out).shy (shy_of_grown g3) (fun e => NA.out _ (by omega) e.symm) (fun e => NA.out _ (by omega) e.symm)
        | none =>
          rw [hk] at hl
          simp only [Option.map_none, Option.getD_none, Option.isSome_none, if_true] at hl
          have hpk := HK.out
          rw [packL_new hk] at hpk
          have hcl : (flat J).length + (c0 :: s).length ≤ 600 := by simp; have := HC.out.2.1; omega
          by_cases hlow : at_ + (flat J).length < 16384
          · rw [if_pos hlow] at hpk
            have hfr := (packL_fresh (T := T) (at_ := at_) Ls 0).2
            rw [hpk] at hfr
            have hnF : lookT F (wire (s :: L)) = none := by
              rw [look_none]
              intro p hp
              rw [List.pairwise_append] at hfr
              exact hfr.2.2 p hp (wire (s :: L), at_ + (flat J).length) (by simp)
            have hFl : F.length ≤ 300 := by
              have := packL_count (T := T) (at_ := at_) Ls 0
              rw [hpk] at this
              simp at this
              have h9 := wire_count Ls
              have := HL.out.2.1
              omega
            obtain ⟨w5, hst, M5, T5⟩ := HM.out.store keyedS Try.underlying45 (by unfold maxLen; omega) HKEY.out (.int .i64 ((at_ : Int) + ((flat J).length : Int)))
            have g5 := T5.grown
            have hz5 := g5.size
            have O5 : OwnG isU8 w5 (w1.heap.size + 1) 5 1 A (flat J).length c ((flat J).map u8v) := HO.out.grown g5 (fun b hb => by have := (HO.out.lt b hb).1; intro e; cases e; omega)
            have P5 : PackW w5 g mb T e := HP.out.shy (shy_of_grown g5) (fun e => by cases e; omega) (fun e => by cases e; omega)
            have E5 : Ext w1 w5 := Below.grown HE.out g5 (by omega) (fun k hk => by cases hk; exact Nat.le_refl _)
            have HO5 := hid O5
            have HF := hid (And.intro hnF (And.intro M5 (And.intro P5 (And.intro E5 hpk))))
            have zl : decide ((at_ : Int) + ((flat J).length : Int) < 16384) = true := by rw [decide_eq_true_iff]; omega
            clear hfr hnF M5 T5 g5 O5 P5 E5 hpk hk
            go_wp2_with ((with_reducible show wpList _ _ _ (⟨some 96, _, _, _, _, _⟩ :: _) _ _); go_must (refine wpList_append_s (by rfl) (.tmp 89) (.tmp 95) 22 9 rfl (w1.heap.size + 1) 5 i0 Try.underlying22 Try.underlying9 hi hz0 hz1 hz2 rfl HO5.out (c0 :: s) rfl (by omega) (by omega) ?_); intro A6 c6 w6 o6 g6 y6)
            obtain ⟨hnF, M5, P5, E5, hpk⟩ := HF.out
            have z6 := g6.size
            have hle : (flat (J ++ [s])).length = (flat J).length + (s.length + 1) := by rw [flat_append, flat_one]; simp
            have hfl : flat (J ++ [s]) = flat J ++ c0 :: s := by rw [flat_append, flat_one, HC.out.1]
            refine ⟨⟨J ++ [s], L, A6, c6, F ++ [(wire (s :: L), at_ + (flat J).length)], by rw [HJ.out]; simp, rfl, by rw [hle], ?_, ?_, ?_, ?_, by omega, ?_⟩, ?_⟩
            · unfold BK.Own
              rw [hle, hfl, List.map_append]
              exact o6
            · rw [hnF_len' hnF] at M5
              have := (M5.kept g6 (NA.out _ (Nat.le_refl _))).congr (fun z => tabT_put hnF z)
              simpa using this
            · exact P5.shy (shy_of_grown g6) (fun e => NA.out _ (by omega) e.symm) (fun e => NA.out _ (by omega) e.symm)
            · exact Below.grown E5 g6 (by omega) (fun k hk => by have := (HO.out.lt k hk).1; omega)
            · rw [hpk, hfl, List.length_append, List.length_cons, List.append_assoc, show (flat J).length + 1 + s.length = (flat J).length + (s.length + 1) from by omega, HC.out.1]
              simp
            · show (str (wire L)).size < t.size
              rw [HZ.out, str_size]; omega
          · rw [if_neg hlow] at hpk
            have hzr' := hzr
            have zl : decide ((at_ : Int) + ((flat J).length : Int) < 16384) = false := by rw [decide_eq_false_iff_not]; omega
            have HF := hid hpk
            clear hpk hk hlow
            go_wp2_with ((with_reducible show wpList _ _ _ (⟨some 96, _, _, _, _, _⟩ :: _) _ _); go_must (refine wpList_append_s (by rfl) (.tmp 89) (.tmp 95) 22 9 rfl (w1.heap.size + 1) 5 i0 Try.underlying22 Try.underlying9 hi hz0 hz1 hz2 rfl HO.out (c0 :: s) rfl (by omega) (by omega) ?_); intro A6 c6 w6 o6 g6 y6)
            have hpk := HF.out
            have z6 := g6.size
            have hle : (flat (J ++ [s])).length = (flat J).length + (s.length + 1) := by rw [flat_append, flat_one]; simp
            have hfl : flat (J ++ [s]) = flat J ++ c0 :: s := by rw [flat_append, flat_one, HC.out.1]
            refine ⟨⟨J ++ [s], L, A6, c6, F, by rw [HJ.out]; simp, rfl, by rw [hle], ?_, ?_, ?_, ?_, by omega, ?_⟩, ?_⟩
            · unfold BK.Own
              rw [hle, hfl, List.map_append]
              exact o6
            · exact HM.out.kept g6 (NA.out _ (Nat.le_refl _))
            · exact HP.out.shy (shy_of_grown g6) (fun e => NA.out _ (by omega) e.symm) (fun e => NA.out _ (by omega) e.symm)
            · exact Below.grown HE.out g6 (by omega) (fun k hk => by have := (HO.out.lt k hk).1; omega)
            · rw [hpk, hfl, List.length_append, List.length_cons, List.append_assoc, show (flat J).length + 1 + s.length = (flat J).length + (s.length + 1) from by omega, HC.out.1]
            · show (str (wire L)).size < t.size
              rw [HZ.out, str_size]; omega
  case rest =>
    obtain ⟨A, c, rfl, hown, hM, hP, hE, hzc⟩ := hcut
    have hgl : g < w1.heap.size := (H.out.1.ext X1.out).lt
    have hml : mb < w1.heap.size := (H.out.2.1.ext X1.out).lt
    have hf : Fresh T R.2 := by
      have h1 := packL_fresh (T := T) (at_ := at_) Ls 0
      have h2 := packL_count (T := T) (at_ := at_) Ls 0
      have h3 := wire_count Ls
      have h4 := HL.out.2.1
      rw [HL.out.2.2] at h1 h2
      exact ⟨H.out.2.2.1, h1.2, fun p hp => ⟨(h1.1 p hp).1, by have := (h1.1 p hp).2.2; omega⟩, by omega⟩
    have hRl : R.1.length ≤ 255 := by
      have := packL_len (T := T) (at_ := at_) Ls 0 HL.out.1
      rw [HL.out.2.2] at this
      have := HL.out.2.1
      omega
    obtain ⟨D, hownD, hsz, hD⟩ := hM
    have HF := hid hf
    have HD := hid hD
    have HP := hid hP
    have HO := hid hown
    have HE := hid hE
    clear hf hD hP hown hE hmm
    go_wp2_with (at_range; go_must (refine wpList_range_own _ rfl _ 45 rfl 9 3 keyedS Try.underlying45 RV w1.heap.size R.2.length D rfl hownD ?_); intro w0 hrg0 hg0 hs0)
    have H0 : PakRan w1 w1.heap.size wc.heap.size g mb T R.2 e A c R.1 w0 := by
      refine ⟨_, _, [], ⟨D, _, hrg0, HD.out⟩, HP.out.1.grown hg0 (by simp), ?_, HO.out.grown hg0 (fun b hb => by simp), (Shy.of_ext HE.out).grown hg0 (fun j hj => by cases hj), fun b hb => (HO.out.lt b hb).2, ⟨hgl, hml, Nat.le_refl _, hzc, hzc⟩, ?_, by simp, by simp⟩
      · rw [List.append_nil]; exact HP.out.2.1.kept hg0 (by simp)
      · intro p hp
        have h1 := HD.out (.string p.1) trivial
        rw [tabT_str, (look_iff HF.out.2.1 p.1 p.2).2 hp] at h1
        have h2 := getF_isSome D (.string p.1)
        rw [← h1] at h2
        simp at h2 ⊢
        exact h2
    have H00 := hid H0
    clear H0 hrg0 hg0 hs0 hownD hsz HD
    go_frame
    go_loopw [] (fun wr => PakRan w1 w1.heap.size wc.heap.size g mb T R.2 e A c R.1 wr) (fun wr => wr.rangeLeft w1.heap.size wc.heap.size)
    case atStart => exact H00.out
    case round =>
      rcases ran_step HF.out hrel with ⟨hrun, hM⟩ | ⟨x, k, w', w'', hrun, hen, hc, hst, hnext, hlt⟩
      · obtain ⟨left, cnt, G, _, hB, _, hO, hS, _⟩ := hrel
        obtain ⟨q0, q1, qf⟩ := hB.two
        have HB := hid hB
        have HM := hid hM
        have HO2 := hid hO
        have HS := hid hS
        clear hB hM hO hS
        go_wp2_with fail
        go_ret2
        have hww := X1.out.size
        have hne := (H.out.ext X1.out).ne
        refine ⟨A, c, rfl, ((HO2.out.far (p := ⟨g, 1, none⟩) (by simp; omega) _).mono (by omega)), ⟨?_, HM.out.setCell (Ne.symm hne) _, okT_more H.out.2.2 (by rw [← HL.out.2.2]) HL.out.2.1⟩, ?_⟩
        · have := HB.out.set_ 1 (.int .i64 ((at_ : Int) + (R.1.length : Int)))
          simpa using this
        · have s1 : Shy (fun k => k = g ∨ k = mb) w wr := (Shy.of_ext (U := fun k => k = g ∨ k = mb) X1.out).trans (HS.out.mono (V := fun k => k = g ∨ k = mb) fun k _ hk => .inr hk) (fun k _ hk => hk)
          exact s1.grown (grownBy_setAt wr g 1 _) (fun j hj hlt => by cases hj; exact .inl rfl)
      · clear hrel
        have HN := hid hnext
        have HL2 := hid hlt
        clear hnext hlt
        go_wp2_with fail
        exact ⟨HN.out, HL2.out⟩

/-- Name, whatever it is handed. -/
theorem name_in {w : World} {g mb e : Nat} {T : Tails} (at_ : Int) (n : Bs) (h : PackW w g mb T e) (hn : n.length ≤ 100000) (hT : T.length ≤ 1000000) {R : Bs × Int × Tails × Nat} (hR : packS T e at_ n = R) :
    Calls Try.prog 19 #[.pointer (some ⟨g, 0, none⟩), .int .i64 at_, .string (str n)] w fun e' w' => ∃ A c, e' = .returned (.tuple #[.slice A R.1.length c, .int .i64 R.2.1]) ∧ BK.Own w' w.heap.size 5 A c R.1 ∧ PackW w' g mb R.2.2.1 R.2.2.2 ∧ Shy (fun k => k = g ∨ k = mb) w w' := by
  subst hR
  have fin : ∀ E, Calls Try.prog 19 #[.pointer (some ⟨g, 0, none⟩), .int .i64 at_, .string (str n)] w (fun e' w' => e' = .returned (.tuple #[.slice none 0 0, .int .i64 E]) ∧ Ext w w') → packS T e at_ n = ([], E, T, e) →
      Calls Try.prog 19 #[.pointer (some ⟨g, 0, none⟩), .int .i64 at_, .string (str n)] w fun e' w' => ∃ A c, e' = .returned (.tuple #[.slice A (packS T e at_ n).1.length c, .int .i64 (packS T e at_ n).2.1]) ∧ BK.Own w' w.heap.size 5 A c (packS T e at_ n).1 ∧ PackW w' g mb (packS T e at_ n).2.2.1 (packS T e at_ n).2.2.2 ∧ Shy (fun k => k = g ∨ k = mb) w w' := by
    intro E hc hp
    rw [hp]
    refine hc.mono ?_
    rintro e' w' ⟨rfl, x⟩
    exact ⟨none, 0, rfl, BK.Own.nil _ _ _, h.ext x, Shy.of_ext x⟩
  by_cases h1 : checkS n = 0
  · by_cases h2 : at_ < 0 ∨ 65535 < at_
    · exact fin 2 (name_err at_ n 2 h hn (.inr (.inl ⟨h1, h2, rfl⟩))) (by unfold packS; rw [if_neg (by simpa using h1), if_pos h2])
    · by_cases h3 : at_ < e
      · exact fin 9 (name_err at_ n 9 h hn (.inr (.inr ⟨h1, by omega, by omega, h3, rfl⟩))) (by unfold packS; rw [if_neg (by simpa using h1), if_neg h2, if_pos h3])
      · obtain ⟨a, rfl⟩ := Int.eq_ofNat_of_zero_le (show 0 ≤ at_ by omega)
        rcases labels_cases n with ⟨hl, _⟩ | ⟨L, _, _, hl⟩ | ⟨L, hL, hlen, hl⟩
        · unfold checkS at h1; rw [hl] at h1; cases h1
        · unfold checkS at h1; rw [hl] at h1; cases h1
        · obtain ⟨rfl, hok⟩ := labS_some hL
          have hp : packS T e (a : Int) (wire L) = ((packL T a 0 L).1, 0, T ++ (packL T a 0 L).2, a + (packL T a 0 L).1.length) := by
            unfold packS
            rw [if_neg (by simpa using h1), if_neg h2, if_neg h3, hl]
            simp
          rw [hp]
          exact name_ok a L h hok hlen (by omega) (by omega) hT rfl
  · exact fin _ (name_err at_ n _ h hn (.inl ⟨h1, rfl⟩)) (by unfold packS; rw [if_pos h1])
end Go.Proofs.Ytfimfmghfjokjaa

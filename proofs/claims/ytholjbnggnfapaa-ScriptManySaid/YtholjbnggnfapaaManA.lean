/- Layer 29: ScriptMany's walk. -/
import Derived.Test.YtholjbnggnfapaaScrN
namespace Go.Proofs.Ytholjbnggnfapaa
open Go.BK Go.BK.SC Go.RowKit Go.Maps
set_option linter.unusedVariables false
set_option linter.unusedSimpArgs false
def tick (i : Nat) : Ev := ⟨6, 0, 0, 0, 0, i, []⟩
def tb (i : Nat) : List UInt8 := [15, byt ((i : Int) / 256), byt (i : Int)]
def TB (j : Nat) : List UInt8 := (List.range j).flatMap tb
def TM (j : Nat) : List Em := (List.range j).map fun i => ⟨tick i, none, 0⟩
theorem TB_succ (j : Nat) : TB (j + 1) = TB j ++ tb j := by simp [TB, List.range_succ, List.flatMap_append]
theorem TM_succ (j : Nat) : TM (j + 1) = TM j ++ [⟨tick j, none, 0⟩] := by simp [TM, List.range_succ]
theorem TM_len (j : Nat) : (TM j).length = j := by simp [TM]
theorem TB_len (j : Nat) : (TB j).length = j * 3 := by
  induction j with
  | zero => rfl
  | succ j ih => rw [TB_succ, List.length_append, ih]; simp [tb]; omega
theorem TM_e (j : Nat) : (TM j).map Em.e = (List.range j).map tick := by simp [TM]
theorem tick_read (i : Nat) (hi : i < 65536) (r : List UInt8) : evS (tb i ++ r) = (tick i, r) := by
  have h1 := byt_nat ((i : Int) / 256)
  have h2 := byt_nat (i : Int)
  have h3 : ((byt ((i : Int) / 256)).toNat) * 256 + (byt (i : Int)).toNat = i := by omega
  have hk : kindS (tb i ++ r) = 6 := by simp [kindS, tb, num, rdA]
  have hnum : ∀ a b : UInt8, num 2 (a :: b :: r) = a.toNat * 256 + b.toNat := fun a b => by simp [num, rdA]
  unfold evS
  rw [hk]
  have e1 : (tb i ++ r).drop 1 = byt ((i : Int) / 256) :: byt (i : Int) :: r := rfl
  rw [e1]
  have e2 : readFs (ev0 ((6 : Nat) : Int)) (fieldsS 6) (byt ((i : Int) / 256) :: byt (i : Int) :: r) = ({ ev0 ((6 : Nat) : Int) with n := (num 2 (byt ((i : Int) / 256) :: byt (i : Int) :: r) : Nat) }, r) := rfl
  rw [e2, hnum, h3]
  rfl
theorem ticks_read (I : List Nat) (hI : ∀ i ∈ I, i < 65536) (f : Nat) : eventsS f (I.flatMap tb) = (I.map tick).take f := by
  induction I generalizing f with
  | nil => simp [events_nil]
  | cons i I ih =>
    cases f with
    | zero => rfl
    | succ f =>
      rw [List.flatMap_cons, events_cons _ _ (by simp [tb]), tick_read i (hI i (by simp)), ih fun j hj => hI j (by simp [hj])]
      rfl
theorem tick_fit (i : Nat) (hi : i < 65536) : fit (tick i) := by
  have h := read_fit (tb i)
  have := tick_read i hi []
  rw [List.append_nil] at this
  rw [this] at h
  exact h
theorem tick_wf (i : Nat) (hi : i < 65536) : WfE (tick i) := wf_small _ (by simp [tick]) (tick_fit i hi)
theorem ticks_bytes (n : Nat) (hn : n ≤ 4200) : bytesS ((List.range n).map tick) = if 4096 < n then ([], 3) else (((List.range n).map tick).flatMap layS, 0) := by
  unfold bytesS
  rw [List.length_map, List.length_range]
  by_cases h : 4096 < n
  · rw [if_pos h, if_pos h]
  · rw [if_neg h, if_neg h, if_pos]
    intro e he
    rw [List.mem_map] at he
    obtain ⟨i, hi, rfl⟩ := he
    rw [List.mem_range] at hi
    exact tick_fit i (by omega)
theorem rd_three (w : World) (a b c : UInt8) : RdG (w.alloc (.cells #[.int .u8 a.toNat, .int .u8 b.toNat, .int .u8 c.toNat] 5)) 1 (some ⟨w.heap.size, 0, none⟩) 3 3 ([a, b, c].map u8v) := lit_rd w [a, b, c] (by simp)
def ManRel (w : World) (n : Nat) (bv lv iv : Value) (wr : World) : Prop :=
  ∃ j Ob cb A c, j ≤ n ∧ iv = .int .i64 (j : Nat) ∧ bv = .slice Ob (j * 3) cb ∧ lv = .slice A j c ∧ OwnG isU8 wr w.heap.size 5 1 Ob (j * 3) cb ((TB j).map u8v) ∧
    OwnG isOne wr w.heap.size 34 7 A j c (cellsL (TM j)) ∧ (∀ k, blk Ob = some k → blk A ≠ some k) ∧ Ext w wr
set_option maxHeartbeats 4000000 in
set_option maxRecDepth 100000 in
theorem many_walk (n0 : Int) (w : World) (hn0 : -9223372036854775808 ≤ n0 ∧ n0 ≤ 9223372036854775807) :
    Calls Try.prog 4 #[.int .i64 n0] w fun r w' => r = .returned (.bool true) ∧ Below w.heap.size w w' := by
  obtain ⟨n, hn, hn4⟩ : ∃ n : Nat, pick n0 4200 = (n : Int) ∧ n ≤ 4199 := by
    have := pick_range n0 4200 (by omega)
    exact ⟨(pick n0 4200).toNat, by omega, by omega⟩
  have CP := pick_any n0 4200 w hn0 (by omega)
  rw [hn] at CP
  have CP := hid CP
  obtain ⟨i0, hi0, hz0, hz1, hz2⟩ := info_parts info_u8
  obtain ⟨i1, hi1, hy0, hy1, hy2⟩ := info_parts info_ev
  clear hn hn0
  go_enter Try.func4, Try.ntmps4
  go_wp2_with fail
  refine CP.out.mono ?_
  rintro r _ ⟨rfl, rfl⟩
  go_wp2_with fail
  go_loopw [3, 4, 5] (fun bv lv iv wr => ManRel w n bv lv iv wr) (fun _ _ iv _ => n - (intOf iv).toNat)
  case atStart => exact ⟨0, none, 0, none, 0, Nat.zero_le _, rfl, rfl, rfl, OwnG.nil _ _ _ _ _, OwnG.nil _ _ _ _ _, by simp, ext_refl _⟩
  case round =>
    obtain ⟨j, Ob, cb, A, c, hj, rfl, rfl, rfl, ob, oe, hne, hx⟩ := hrel
    by_cases hlt : j < n
    · have i2 : (j : Int) < (n : Int) := by omega
      obtain ⟨y1, hy1'⟩ : ∃ y1, byt ((j : Int) / 256) = y1 := ⟨_, rfl⟩
      obtain ⟨y2, hy2'⟩ : ∃ y2, byt (j : Int) = y2 := ⟨_, rfl⟩
      have hb1 := byt_u8 ((j : Int) / 256)
      have hb2 := byt_u8 (j : Int)
      rw [hy1'] at hb1
      rw [hy2'] at hb2
      have HY1 := hid hy1'
      have HY2 := hid hy2'
      have xa := ext_alloc wr (.cells #[.int .u8 (15 : UInt8).toNat, .int .u8 y1.toNat, .int .u8 y2.toNat] 5)
      have sa := rd_three wr 15 y1 y2
      obtain ⟨wa, hwa⟩ : ∃ wa, wr.alloc (.cells #[.int .u8 (15 : UInt8).toNat, .int .u8 y1.toNat, .int .u8 y2.toNat] 5) = wa := ⟨_, rfl⟩
      rw [hwa] at xa sa
      have hwa' : wr.alloc (.cells #[.int .u8 15, .int .u8 y1.toNat, .int .u8 y2.toNat] 5) = wa := hwa
      have da := ob.ext xa
      have hza : w.heap.size ≤ wa.heap.size := Nat.le_trans hx.size xa.size
      have XA := hid xa
      have HX := hid hx
      have HNE := hid hne
      have OB := hid ob
      have OE := hid oe
      clear hx hne ob oe xa hwa hy1' hy2'
      go_upto_region 8 with (at_builtin; go_must (refine wpList_append_g (ok := isU8) rfl (.tmp 16) (.tmp 22) 22 rfl w.heap.size 5 i0 (.int .u8 0) 1 1 Try.underlying22 hi0 hz0 hz1 hz2 rfl (by decide) (by simp [Value.cells]; exact ⟨0, rfl⟩) (fun _ h => h.one) rfl da rfl sa (isU8_map _) (by omega) (by unfold maxLen; omega) hza ?_; intro A6 c6 w6 o6 g6 n6; have O6 := hid o6; have G6 := hid g6; have N6 := hid n6; clear o6 g6 n6 da sa))
      have e6 : OwnG isOne w6 w.heap.size 34 7 A j c (cellsL (TM j)) := (OE.out.ext XA.out).grown G6.out (fun k hk e => HNE.out k e.symm hk)
      have xb := ext_alloc w6 (.cells (cellsE (tick j) none 0) 34)
      have sb := rd_seven w6 (tick j) none 0 34
      obtain ⟨wb, hwb⟩ : ∃ wb, w6.alloc (.cells (cellsE (tick j) none 0) 34) = wb := ⟨_, rfl⟩
      rw [hwb] at xb sb
      have hwb' : w6.alloc (.cells #[.int .i64 6, .int .i64 0, .int .i64 0, .int .i64 0, .int .i64 0, .int .i64 (j : Nat), .slice none 0 0] 34) = wb := hwb
      have db := e6.ext xb
      have hzb : w.heap.size ≤ wb.heap.size := by
        have h1 := G6.out.size
        have h2 := xb.size
        omega
      have XB := hid xb
      have E6 := hid e6
      clear xb hwb e6 hwa'
      go_wp2_with (at_builtin; go_must (refine wpList_append_g (ok := isOne) rfl (.tmp 24) (.tmp 27) 24 rfl w.heap.size 34 i1 (.agg #[.int .i64 0, .int .i64 0, .int .i64 0, .int .i64 0, .int .i64 0, .int .i64 0, .slice none 0 0]) 7 72 Try.underlying24 hi1 hy0 hy1 hy2 rfl (by decide) zero_seven (fun _ h => h) rfl db rfl sb (ev_one (tick j) none 0) (by omega) (by unfold maxLen; omega) hzb ?_; intro A8 c8 w8 o8 g8 n8; have O8 := hid o8; have G8 := hid g8; have N8 := hid n8; clear o8 g8 n8 db sb))
      go_roundw
      case rel =>
        have hA : ∀ k, blk A = some k → w.heap.size ≤ k ∧ k < w6.heap.size := fun k hk => E6.out.lt k hk
        have hB : ∀ k, blk A6 = some k → w.heap.size ≤ k ∧ k < w6.heap.size := fun k hk => O6.out.lt k hk
        have hB6 : ∀ k, blk A6 = some k → blk A ≠ some k := fun k hk e => by
          rcases N6.out with h1 | h1
          · rw [h1] at hk
            exact HNE.out k hk e
          · rw [h1] at hk
            injection hk with hk
            have h2 := (OE.out.lt k e).2
            have h3 := XA.out.size
            dsimp only at hk
            omega
        refine ⟨j + 1, A6, c6, A8, c8, by omega, by go_num, by rw [Nat.add_mul], rfl, ?_, ?_, fun k hk e => ?_, ?_⟩
        · rw [TB_succ, List.map_append, Nat.add_mul]
          have h1 := (O6.out.ext XB.out).grown G8.out (fun k hk e => hB6 k hk e.symm)
          have h2 : tb j = [15, y1, y2] := by unfold tb; rw [HY1.out, HY2.out]
          rw [h2]
          exact h1
        · rw [TM_succ, cellsL_append]
          have h1 := O8.out
          have h2 : cellsL [⟨tick j, none, 0⟩] = (cellsE (tick j) none 0).toList := by simp [cellsL]
          rw [h2]
          exact h1
        · rcases N8.out with h1 | h1
          · rw [h1] at e
            exact hB6 k hk e
          · rw [h1] at e
            injection e with e
            have h2 := (hB k hk).2
            have h3 := XB.out.size
            dsimp only at e
            omega
        · have x6 : Ext w w6 := below_of_grown (ext_trans HX.out XA.out) hza G6.out (fun g hg => (OB.out.lt g hg).1)
          exact below_of_grown (ext_trans x6 XB.out) hzb G8.out (fun g hg => (hA g hg).1)
      case measure => simp [intOf]; omega
    · obtain rfl : j = n := by omega
      have i2 : ¬ (j : Int) < (j : Int) := by omega
      obtain ⟨wz, rfl⟩ : ∃ wz, wz = wr := ⟨_, rfl⟩
      have RB : Hid (Rd wz Ob cb (TB j)) := hid (by
        unfold Rd
        rw [TB_len]
        exact ob.rd)
      have RE : Hid (EvR wz A c (TM j)) := hid ⟨by rw [TM_len]; exact oe.rd, fun m hm => (by
        unfold TM at hm
        rw [List.mem_map] at hm
        obtain ⟨i, _, rfl⟩ := hm
        exact RdG.none_ _ _)⟩
      have HX := hid hx
      have CE := events_in RB.out
      rw [TB_len] at CE
      have CE := hid CE
      clear ob oe hne hx
      go_wp2_with fail
      refine CE.out.mono ?_
      rintro r w2 ⟨A2, c2, M2, rfl, l2, e2, x2⟩
      have e2' : M2.map Em.e = ((List.range j).map tick).take 4096 := by
        rw [e2]
        unfold TB
        exact ticks_read _ (fun i hi => by rw [List.mem_range] at hi; omega) _
      have hl2 : M2.length = min j 4096 := by
        have := congrArg List.length e2'
        simpa [Nat.min_comm] using this
      have L2 := hid l2.rd
      have E2 := hid e2'
      have RE2 := hid (RE.out.ext x2)
      have X2 := hid (ext_trans HX.out x2)
      have CB := bytes_in RE2.out (fun m hm => by
        unfold TM at hm
        rw [List.mem_map] at hm
        obtain ⟨i, hi, rfl⟩ := hm
        rw [List.mem_range] at hi
        exact tick_wf i (by omega))
      rw [TM_len] at CB
      have CB := hid CB
      have HTB := hid (ticks_bytes j (by omega))
      rw [hl2]
      have hcut := cap_cut A c
      have hjc : j ≤ c := by have := RE2.out.1.2.1; rw [TM_len] at this; exact this
      have HL2 := hid hl2
      clear l2 e2 e2' x2 hl2
      by_cases hbig : 4096 < j
      · have hb := HTB.out
        rw [if_pos hbig] at hb
        have hb' : bytesS ((TM j).map Em.e) = ([], 3) := by rw [TM_e]; exact hb
        have D := hid (fun w' r (h : BytD w2 w' ((TM j).map Em.e) r) => (BytD_eq hb' ▸ h))
        have hqv : min j 4096 = 4096 := by omega
        rw [hqv]
        have hqc : (4096 : Int) ≤ (c : Int) := by omega
        have SE := hid (fun W (x : Ext w2 W) => same_events_n (n := 4096) (m := 4096) (EvR.ext L2.out x) (EvR.ext (RE2.out.take 4096 (by rw [TM_len]; omega)) x) (by rw [E2.out, List.map_take, TM_e]; try rw [List.take_of_length_le (l := (List.range j).map tick) (i := j) (by simp), List.take_of_length_le (by simp; omega)]) (by rw [HL2.out, hqv]) (by rw [List.length_take, TM_len]; omega))
        clear hqv
        have i5 : ¬ (j : Int) ≤ 4096 := by omega
        clear hb hb'
        go_wp2_with fail
        refine CB.out.mono ?_
        intro r w3 h3
        obtain ⟨O3, c3, rfl, _, x3⟩ := D.out _ _ h3
        have X3 := hid x3
        clear h3 x3
        go_wp2_with fail
        refine (SE.out _ X3.out).mono ?_
        rintro r w4 ⟨rfl, x4⟩
        have X4 := hid x4
        clear x4
        go_wp2_with fail
        refine (awake_in w4).mono ?_
        rintro r w5 ⟨rfl, x5⟩
        have X5 := hid x5
        clear x5
        go_wp2_with fail
        go_ret
        first
          | exact ⟨rfl, ext_trans X2.out (ext_trans X3.out (ext_trans X4.out X5.out))⟩
          | exact ⟨ret_bool (by simp <;> omega), ext_trans X2.out (ext_trans X3.out (ext_trans X4.out X5.out))⟩
      · have hb := HTB.out
        rw [if_neg hbig] at hb
        obtain ⟨Y, hY⟩ : ∃ Y, ((List.range j).map tick).flatMap layS = Y := ⟨_, rfl⟩
        rw [hY] at hb
        have hb' : bytesS ((TM j).map Em.e) = (Y, 0) := by rw [TM_e]; exact hb
        have D := hid (fun w' r (h : BytD w2 w' ((TM j).map Em.e) r) => (BytD_eq hb' ▸ h))
        have hqv : min j 4096 = j := by omega
        rw [hqv]
        have hqc : (((j : Nat) : Int) : Int) ≤ (c : Int) := by omega
        have SE := hid (fun W (x : Ext w2 W) => same_events_n (n := j) (m := j) (EvR.ext L2.out x) (EvR.ext (RE2.out.take j (by rw [TM_len]; omega)) x) (by rw [E2.out, List.map_take, TM_e]; try rw [List.take_of_length_le (l := (List.range j).map tick) (i := j) (by simp), List.take_of_length_le (by simp; omega)]) (by rw [HL2.out, hqv]) (by rw [List.length_take, TM_len]; omega))
        clear hqv
        have i5 : (j : Int) ≤ 4096 := by omega
        clear hb hb' hY
        go_wp2_with fail
        refine CB.out.mono ?_
        intro r w3 h3
        obtain ⟨O3, c3, rfl, _, x3⟩ := D.out _ _ h3
        have X3 := hid x3
        clear h3 x3
        go_wp2_with fail
        refine (SE.out _ X3.out).mono ?_
        rintro r w4 ⟨rfl, x4⟩
        have X4 := hid x4
        clear x4
        go_wp2_with fail
        refine (awake_in w4).mono ?_
        rintro r w5 ⟨rfl, x5⟩
        have X5 := hid x5
        clear x5
        go_wp2_with fail
        go_ret
        first
          | exact ⟨rfl, ext_trans X2.out (ext_trans X3.out (ext_trans X4.out X5.out))⟩
          | exact ⟨ret_bool (by simp <;> omega), ext_trans X2.out (ext_trans X3.out (ext_trans X4.out X5.out))⟩
end Go.Proofs.Ytholjbnggnfapaa

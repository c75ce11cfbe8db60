/- Layer 29: events copied; ScriptWrites' walk. -/
import Derived.Test.YtholjbnggnfapaaRscH
namespace Go.Proofs.Ytholjbnggnfapaa
open Go.BK Go.BK.SC Go.RowKit Go.Maps
set_option linter.unusedVariables false
set_option linter.unusedSimpArgs false
section
variable {w w' : World} {c : Nat} {A : Option Addr} {M : List Em}
def CpRel (w : World) (L : List Ev) (m : Nat) (ov iv : Value) (wr : World) : Prop :=
  ∃ j A' c' N, j ≤ m ∧ iv = .int .i64 (j : Nat) ∧ ov = .slice A' j c' ∧ N.length = j ∧ EvL wr w.heap.size A' c' N ∧ N.map Em.e = L.take j ∧ Ext w wr
def CpyD (w w' : World) (m : Nat) (L : List Ev) (r : Ending) : Prop := ∃ A' c' N, r = .returned (.slice A' m c') ∧ N.length = m ∧ EvL w' w.heap.size A' c' N ∧ N.map Em.e = L ∧ Ext w w'
set_option maxHeartbeats 4000000 in
set_option maxRecDepth 100000 in
theorem copy_events (h : EvR w A c M) (hn : M.length ≤ 5000) (hb : ∀ m ∈ M, m.e.b.length ≤ 5000) : Calls Try.prog 22 #[.slice A M.length c] w fun r w' => CpyD w w' M.length (M.map Em.e) r := by
  obtain ⟨L, hL⟩ : ∃ L, M.map Em.e = L := ⟨_, rfl⟩
  obtain ⟨m, hm⟩ : ∃ m, M.length = m := ⟨_, rfl⟩
  have hLm : L.length = m := by rw [← hL, List.length_map, hm]
  have HLL := hid hL
  have HLM := hid hLm
  have H := hid h
  have HM := hid hm
  have HBB := hid hb
  rw [hm] at hn
  rw [hm, hL]
  have START : Hid (CpRel w L m (.slice none 0 0) (.int .i64 0) w) := hid ⟨0, none, 0, [], Nat.zero_le _, rfl, rfl, rfl, EvL.nil _ _, rfl, ext_refl _⟩
  obtain ⟨i1, hi1, hy0, hy1, hy2⟩ := info_parts info_ev
  clear h hm hL hLm hb
  go_enter Try.func22, Try.ntmps22
  go_wp2_with fail
  go_loopw [3, 4] (fun ov iv wr => CpRel w L m ov iv wr) (fun _ iv _ => m - (intOf iv).toNat)
  case atStart => exact START.out
  case round =>
    obtain ⟨j, A', c', N, hj, rfl, rfl, hN, hEL, hNL, hx⟩ := hrel
    by_cases hlt : j < m
    · have i2 : (j : Int) < (m : Int) := by omega
      have hlt1 : j < M.length := by rw [HM.out]; exact hlt
      obtain ⟨b, o, hA, hb, hc⟩ := (H.out.ext hx).at_ (by omega)
      obtain ⟨x, hxm, hxe, x0, x1, x2, x3, x4, x5, x6, xr⟩ := hc j hlt1
      obtain ⟨htk, hmem⟩ := el_mem HLL.out hlt1 hxe
      have hb5 := HBB.out x hxm
      obtain ⟨e, B, d⟩ := x
      simp only at x0 x1 x2 x3 x4 x5 x6 xr htk hmem hb5
      subst hA
      have xa := ext_alloc wr (.cells (cellsE e B d) 34)
      have ba := Blk.new wr 34 (cellsE e B d)
      obtain ⟨wa, hwa⟩ : ∃ wa, wr.alloc (.cells (cellsE e B d) 34) = wa := ⟨_, rfl⟩
      obtain ⟨gb, hgb⟩ : ∃ gb, wr.heap.size = gb := ⟨_, rfl⟩
      rw [hwa] at xa ba
      rw [hgb] at ba
      have hza : wa.heap.size = gb + 1 := by rw [← hwa, ← hgb]; simp
      have hwgb : w.heap.size ≤ gb := by rw [← hgb]; exact hx.size
      have XR := hid (RdG.ext xr xa)
      have XA := hid xa
      have BA := hid ba
      have HGB := hid hgb
      have HZA := hid hza
      have EL := hid hEL
      have HNN := hid hN
      have HNL := hid hNL
      have HX := hid hx
      have HTK := hid htk
      unfold cellsE at hwa
      have HWA := hid hwa
      clear hc hxm hxe xr xa ba hwa hgb hza hEL hN hNL hx htk hmem
      go_upto_region 6 with (fail)
      rw [HWA.out, HGB.out]
      have k6 : wa.cell? ⟨gb, 6, none⟩ = some (.slice B e.b.length d) := BA.out.cell 6
      have CB := hid (copy_bytes XR.out (by omega))
      clear x0 x1 x2 x3 x4 x5 x6
      go_wp2_with fail
      refine CB.out.mono ?_
      rintro r w5 ⟨B2, d2, rfl, o5, x5⟩
      have b5 := BA.out.ext x5
      have k6' : w5.cell? ⟨gb, 6, none⟩ = some (.slice B e.b.length d) := b5.cell 6
      have kf := b5.frozen
      have B6 : Blk (w5.setCell ⟨gb, 6, none⟩ (.slice B2 e.b.length d2)) gb 34 (cellsE e B2 d2) := by
        have := b5.set_ 6 (.slice B2 e.b.length d2)
        simpa [cellsE] using this
      have O6 : Hid (Own (w5.setCell ⟨gb, 6, none⟩ (.slice B2 e.b.length d2)) gb 5 B2 d2 e.b) := hid (OwnG.mono (OwnG.far o5 (by show gb < wa.heap.size; have := HZA.out; omega) _) (by have := HZA.out; omega))
      have S6 : Hid (Shy (fun k => k = gb) wr (w5.setCell ⟨gb, 6, none⟩ (.slice B2 e.b.length d2))) := hid ((Shy.of_ext (ext_trans XA.out x5) : Shy (fun k => k = gb) wr w5).set (b := gb) (fun _ => rfl) 6 _)
      obtain ⟨w6, hw6⟩ : ∃ w6, w5.setCell ⟨gb, 6, none⟩ (.slice B2 e.b.length d2) = w6 := ⟨_, rfl⟩
      rw [hw6] at B6 O6 S6
      have HW6 := hid hw6
      have j0 : w6.cell? ⟨gb, 0, none⟩ = some (.int .i64 e.kind) := B6.cell 0
      have j1 : w6.cell? ⟨gb, 1, none⟩ = some (.int .i64 e.sort) := B6.cell 1
      have j2 : w6.cell? ⟨gb, 2, none⟩ = some (.int .i64 e.who) := B6.cell 2
      have j3 : w6.cell? ⟨gb, 3, none⟩ = some (.int .i64 e.port) := B6.cell 3
      have j4 : w6.cell? ⟨gb, 4, none⟩ = some (.int .i64 e.conn) := B6.cell 4
      have j5 : w6.cell? ⟨gb, 5, none⟩ = some (.int .i64 e.n) := B6.cell 5
      have j6 : w6.cell? ⟨gb, 6, none⟩ = some (.slice B2 e.b.length d2) := B6.cell 6
      clear o5 x5 b5 B6 k6 hw6
      go_upto_region 7 with (fail)
      rw [HW6.out]
      have xb := ext_alloc w6 (.cells (cellsE e B2 d2) 34)
      have src := rd_seven w6 e B2 d2 34
      have OL := EL.out.1
      rw [HNN.out] at OL
      have dst := (S6.out.ownG OL (fun k hk e => by have := (OL.lt k hk).2; have := HGB.out; omega)).ext xb
      obtain ⟨wb, hwb⟩ : ∃ wb, w6.alloc (.cells (cellsE e B2 d2) 34) = wb := ⟨_, rfl⟩
      rw [hwb] at xb src dst
      have hzb : w.heap.size ≤ wb.heap.size := by
        have h1 := xb.size
        have h2 := S6.out.size
        have h3 := HGB.out
        omega
      have XB := hid xb
      unfold cellsE at hwb
      clear xb OL k6' kf
      go_wp2_with (at_builtin; go_must (refine wpList_append_g (ok := isOne) rfl (.tmp 20) (.tmp 22) 24 rfl w.heap.size 34 i1 (.agg #[.int .i64 0, .int .i64 0, .int .i64 0, .int .i64 0, .int .i64 0, .int .i64 0, .slice none 0 0]) 7 72 Try.underlying24 hi1 hy0 hy1 hy2 rfl (by decide) zero_seven (fun _ h => h) rfl dst rfl src (ev_one e B2 d2) (by omega) (by unfold maxLen; omega) hzb ?_; intro A8 c8 w8 o8 g8 n8; have O8 := hid o8; have G8 := hid g8; have N8 := hid n8; clear o8 g8 n8 dst src))
      go_roundw
      case rel =>
        have hadd := EvL.add (e := e) (d := d2) (B := B2) (c6 := c8) EL.out S6.out (fun k h1 h2 e => by have := HGB.out; omega) (by have := HGB.out; omega) (by rw [HGB.out]; exact O6.out) XB.out G8.out N8.out (by rw [HNN.out]; exact O8.out)
        refine ⟨j + 1, A8, c8, N ++ [⟨e, B2, d2⟩], by omega, by go_num, rfl, (by simp [HNN.out]), hadd, ?_, ?_⟩
        · rw [List.map_append, HNL.out, HTK.out]
          rfl
        · have hA : ∀ k, blk A' = some k → w.heap.size ≤ k := fun k hk => (EL.out.1.lt k hk).1
          refine below_of_grown (ext_trans (Below.trans HX.out (S6.out.below HX.out.size (fun k hk e => by omega))) XB.out) hzb G8.out (fun g hg => hA g hg)
      case measure => simp [intOf]; omega
    · obtain rfl : j = m := by omega
      have i2 : ¬ (j : Int) < (j : Int) := by omega
      have EL := hid hEL
      have HNN := hid hN
      have HX := hid hx
      have e1 : N.map Em.e = L := by rw [hNL, ← HLM.out, List.take_length]
      have HNL := hid e1
      clear hEL hN hNL hx e1
      go_wp2_with fail
      go_ret
      exact ⟨A', c', N, rfl, HNN.out, EL.out, HNL.out, HX.out⟩
set_option maxHeartbeats 4000000 in
set_option maxRecDepth 100000 in
theorem writes_walk (w : World) (hE : EvR w A c M ∧ ∀ m ∈ M, WfE m.e) :
    Calls Try.prog 7 #[.slice A M.length c] w fun r w' => r = .returned (.bool true) ∧ Below w.heap.size w w' := by
  have HE := hid hE.1
  have HW := hid hE.2
  have CG := hid (long_in hE.1)
  obtain ⟨nm, hnm'⟩ : ∃ nm, M.length = nm := ⟨_, rfl⟩
  obtain ⟨L, hL⟩ : ∃ L, M.map Em.e = L := ⟨_, rfl⟩
  have CY := hid (fun W (x : Ext w W) => rf_bytes_all (HE.out.ext x))
  have CK := hid (fun W (x : Ext w W) => rf_check (HE.out.ext x))
  have CC := hid (fun h1 h2 => copy_events HE.out h1 h2)
  rw [hnm'] at CG CY CK CC ⊢
  rw [hL] at CY CK CC
  have HNM := hid hnm'
  have HL := hid hL
  obtain ⟨q, k, hqk⟩ : ∃ q k, bytesS L = (q, k) := ⟨_, _, rfl⟩
  rw [hqk] at CK
  have HQK := hid hqk
  clear hnm' hL hE hqk
  go_enter Try.func7, Try.ntmps7
  go_wp2_with fail
  refine CG.out.mono ?_
  rintro r _ ⟨lg, rfl, rfl, hlg⟩
  cases lg with
  | true =>
    go_wp2_with fail
    go_ret
    exact ⟨rfl, Below.refl _ _⟩
  | false =>
    obtain ⟨l1, l2⟩ := hlg rfl
    rw [HNM.out] at l1
    have CC := hid (CC.out l1 l2)
    clear l2 hlg
    go_wp2_with fail
    refine CC.out.mono ?_
    rintro r w1 ⟨A1, c1, N, rfl, hn1, el1, en1, x1⟩
    have X1 := hid x1
    have L1 := hid el1.rd
    have EN1 := hid en1
    have HN1 := hid hn1
    have wf1 : ∀ m ∈ N, WfE m.e := fun m hm => by
      have h1 : m.e ∈ L := by rw [← en1]; exact List.mem_map_of_mem hm
      rw [← HL.out, List.mem_map] at h1
      obtain ⟨m', hm', e'⟩ := h1
      rw [← e']
      exact HW.out m' hm'
    have CB := hid (fun W (x : Ext w1 W) => bytes_in (L1.out.ext x) wf1)
    have CH := hid (fun W (x : Ext w1 W) => check_in (L1.out.ext x) wf1)
    rw [hn1, en1] at CB CH
    rw [HQK.out] at CH
    clear x1 el1 en1 hn1 wf1
    go_wp2_with fail
    refine (CB.out w1 (ext_refl _)).mono ?_
    intro r w2 h2
    rw [BytD_eq HQK.out] at h2
    obtain ⟨O2, c2, rfl, o2, x2⟩ := h2
    have X2 := hid x2
    have O2H := hid o2
    clear o2 x2
    go_wp2_with fail
    refine (CY.out w2 (ext_trans X1.out X2.out)).mono ?_
    intro r w3 h3
    rw [BytD_eq HQK.out] at h3
    obtain ⟨O3, c3, rfl, o3, x3⟩ := h3
    have X3 := hid x3
    have R2 := hid (OwnG.rd (OwnG.ext O2H.out x3))
    have R3 := hid (OwnG.rd o3)
    clear o3 x3
    go_wp2_with fail
    refine (same_yes R2.out R3.out rfl).mono ?_
    rintro r _ ⟨rfl, rfl⟩
    go_wp2_with fail
    refine (CH.out w3 (ext_trans X2.out X3.out)).mono ?_
    rintro r w4 ⟨rfl, x4⟩
    have X4 := hid x4
    clear x4
    go_wp2_with fail
    refine (CK.out w4 (ext_trans X1.out (ext_trans X2.out (ext_trans X3.out X4.out)))).mono ?_
    rintro r w5 ⟨rfl, x5⟩
    have X5 := hid (ext_trans X2.out (ext_trans X3.out (ext_trans X4.out x5)))
    clear x5
    go_wp2_with fail
    refine (same_events_n (L1.out.ext X5.out) (HE.out.ext (ext_trans X1.out X5.out)) (by rw [EN1.out, HL.out]) HN1.out HNM.out).mono ?_
    rintro r w6 ⟨rfl, x6⟩
    have X6 := hid x6
    clear x6
    go_wp2_with fail
    refine (awake_in w6).mono ?_
    rintro r w7 ⟨rfl, x7⟩
    have X7 := hid x7
    clear x7
    go_wp2_with fail
    go_ret
    exact ⟨rfl, ext_trans X1.out (ext_trans X5.out (ext_trans X6.out X7.out))⟩
end
end Go.Proofs.Ytholjbnggnfapaa

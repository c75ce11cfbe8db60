/- Layer 29: the document's Check, Bytes. (Printed by gen_rsch.py.) -/
import Derived.Test.YtholjbnggnfapaaRscG
import Derived.Test.YtholjbnggnfapaaScrU
namespace Go.Proofs.Ytholjbnggnfapaa
open Go.BK Go.BK.SC Go.RowKit Go.Maps
set_option linter.unusedVariables false
set_option linter.unusedSimpArgs false
section
variable {w w' : World} {c : Nat} {A : Option Addr} {M : List Em}
def CkRel (w : World) (L : List Ev) (m : Nat) (iv : Value) (wr : World) : Prop :=
  ∃ j, j ≤ m ∧ iv = .int .i64 (j : Nat) ∧ Ext w wr ∧ ∀ e ∈ L.take j, fit e
theorem el_mem {L : List Ev} {j : Nat} {x : Em} (hL : M.map Em.e = L) (hlt : j < M.length) (hxe : M.getD j em0 = x) : L.take (j + 1) = L.take j ++ [x.e] ∧ x.e ∈ L := by
  have hl : j < L.length := by rw [← hL, List.length_map]; exact hlt
  have h1 : L[j] = x.e := by
    have : L[j]? = some (M[j].e) := by rw [← hL, List.getElem?_map, List.getElem?_eq_getElem hlt]; rfl
    rw [List.getElem?_eq_getElem hl] at this
    injection this with this
    rw [this, ← hxe, getD_el hlt]
  refine ⟨by rw [List.take_succ_eq_append_getElem hl, h1], ?_⟩
  rw [← h1]
  exact List.getElem_mem hl
set_option maxHeartbeats 4000000 in
set_option maxRecDepth 100000 in
theorem rf_check (h : EvR w A c M) : Calls Try.prog 25 #[.slice A M.length c] w fun r w' => r = .returned (.int .i64 (bytesS (M.map Em.e)).2) ∧ Ext w w' := by
  obtain ⟨L, hL⟩ : ∃ L, M.map Em.e = L := ⟨_, rfl⟩
  obtain ⟨m, hm⟩ : ∃ m, M.length = m := ⟨_, rfl⟩
  have hLm : L.length = m := by rw [← hL, List.length_map, hm]
  have hmx : m ≤ maxLen := by rw [← hm]; exact Nat.le_trans h.1.2.1 h.1.2.2.1
  unfold maxLen at hmx
  obtain ⟨z, hz⟩ : ∃ z, (bytesS L).2 = z := ⟨_, rfl⟩
  have HZ := hid hz
  have HLL := hid hL
  have HLM := hid hLm
  have H := hid h
  have HM := hid hm
  rw [hm, hL, hz]
  clear h hm hL hLm hz
  by_cases hbig : 4096 < m
  · have i1 : (4096 : Int) < (m : Int) := by omega
    have hb : z = 3 := by rw [← HZ.out]; unfold bytesS; rw [if_pos (by rw [HLM.out]; exact hbig)]
    subst hb
    go_enter Try.func25, Try.ntmps25
    go_wp2_with fail
    go_ret
    exact ⟨rfl, ext_refl _⟩
  · have i1 : ¬ (4096 : Int) < (m : Int) := by omega
    have HBIG := hid hbig
    clear hbig
    go_enter Try.func25, Try.ntmps25
    go_wp2_with fail
    go_loopw [3] (fun iv wr => CkRel w L m iv wr) (fun iv _ => m - (intOf iv).toNat)
    case atStart => exact ⟨0, Nat.zero_le _, rfl, ext_refl _, by simp⟩
    case round =>
      obtain ⟨j, hj, rfl, hx, hfit⟩ := hrel
      by_cases hlt : j < m
      · have i2 : (j : Int) < (m : Int) := by omega
        have hlt1 : j < M.length := by rw [HM.out]; exact hlt
        obtain ⟨b, o, hA, hb, hc⟩ := (H.out.ext hx).at_ (by omega)
        obtain ⟨x, hxm, hxe, x0, x1, x2, x3, x4, x5, x6, xr⟩ := hc j hlt1
        obtain ⟨htk, hmem⟩ := el_mem HLL.out hlt1 hxe
        obtain ⟨e, B, d⟩ := x
        simp only at x0 x1 x2 x3 x4 x5 x6 xr htk hmem
        subst hA
        have hbl : e.b.length ≤ 9223372036854775807 := xr.n_le
        have XC : Hid (∀ W, Ext wr W → W.cell? ⟨b, o + j * 7, none⟩ = some (.int .i64 e.kind) ∧ W.cell? ⟨b, o + j * 7 + 1, none⟩ = some (.int .i64 e.sort) ∧ W.cell? ⟨b, o + j * 7 + 2, none⟩ = some (.int .i64 e.who) ∧ W.cell? ⟨b, o + j * 7 + 3, none⟩ = some (.int .i64 e.port) ∧ W.cell? ⟨b, o + j * 7 + 4, none⟩ = some (.int .i64 e.conn) ∧ W.cell? ⟨b, o + j * 7 + 5, none⟩ = some (.int .i64 e.n) ∧ W.cell? ⟨b, o + j * 7 + 6, none⟩ = some (.slice B e.b.length d)) := hid (fun W x => (by
          have q := fun i => x.cell (p := ⟨b, o + j * 7 + i, none⟩) hb
          exact ⟨(q 0).trans x0, (q 1).trans x1, (q 2).trans x2, (q 3).trans x3, (q 4).trans x4, (q 5).trans x5, (q 6).trans x6⟩))
        have XR := hid xr
        have HX := hid hx
        have HFIT := hid hfit
        have HTK := hid htk
        have HMEM := hid hmem
        clear hc hxm hxe xr hx hfit htk hmem
        by_cases hbb : 4096 < e.b.length
        · have i3 : (4096 : Int) < (e.b.length : Int) := by omega
          have hbad := bytes_bad L (by rw [HLM.out]; exact HBIG.out) HMEM.out (fun hf => by have := hf.1; omega)
          have hz2 : z = 2 := by rw [← HZ.out, hbad]
          subst hz2
          clear hbad
          go_wp2_with fail
          go_ret
          exact ⟨rfl, HX.out⟩
        · have i3 : ¬ (4096 : Int) < (e.b.length : Int) := by omega
          have hb4 : e.b.length ≤ 4096 := by omega
          have LN := layS_len e hb4
          have CL := hid (rf_lay XR.out hb4)
          clear hbb
          go_wp2_with fail
          refine CL.out.mono ?_
          rintro r w7 ⟨O7, c7, rfl, o7, x7⟩
          obtain ⟨lb, hlb⟩ : ∃ lb, layS e = lb := ⟨_, rfl⟩
          rw [hlb] at o7 LN ⊢
          have HLB := hid hlb
          have xa := ext_alloc w7 (.cells #[.slice O7 lb.length c7, .int .i64 0] 51)
          have r8 : RfR (w7.alloc (.cells #[.slice O7 lb.length c7, .int .i64 0] 51)) w7.heap.size O7 c7 lb 0 := ⟨Blk.new w7 _ _, OwnG.rd (OwnG.ext o7 xa), fun h0 e => by have := (OwnG.lt o7 _ e).2; omega⟩
          have rl : RLr (w7.alloc (.cells #[.slice O7 lb.length c7, .int .i64 0] 51)) w7.heap.size O7 c7 lb lb 0 := ⟨0, Nat.le_refl _, r8, rfl⟩
          have CE := rf_event rl (by omega)
          obtain ⟨fe, hfe⟩ : ∃ fe, (evS lb).1 = fe := ⟨_, rfl⟩
          obtain ⟨rr, hrr⟩ : ∃ rr, decide (fe = e) = rr := ⟨_, rfl⟩
          have X8 : Hid (Ext wr (w7.alloc (.cells #[.slice O7 lb.length c7, .int .i64 0] 51))) := hid (ext_trans x7 xa)
          have hz7 : wr.heap.size ≤ w7.heap.size := x7.size
          have HFE := hid hfe
          have HRR := hid hrr
          have CE := hid CE
          clear o7 xa r8 rl hlb x7 hfe hrr
          go_wp2_with fail
          refine CE.out.mono ?_
          rintro r w9 ⟨B9, d9, rfl, o9, _, s9⟩
          rw [HFE.out] at o9 ⊢
          have X9 : Hid (Ext wr w9) := hid (Below.trans X8.out (s9.below X8.out.size (fun k hk e => by omega)))
          have RD9 := hid (OwnG.rd o9)
          have xb := ext_alloc w9 (.cells #[.int .i64 fe.kind, .int .i64 fe.sort, .int .i64 fe.who, .int .i64 fe.port, .int .i64 fe.conn, .int .i64 fe.n, .slice B9 fe.b.length d9] 34)
          have ba := Blk.new w9 34 #[.int .i64 fe.kind, .int .i64 fe.sort, .int .i64 fe.who, .int .i64 fe.port, .int .i64 fe.conn, .int .i64 fe.n, .slice B9 fe.b.length d9]
          obtain ⟨wa, hwa⟩ : ∃ wa, w9.alloc (.cells #[.int .i64 fe.kind, .int .i64 fe.sort, .int .i64 fe.who, .int .i64 fe.port, .int .i64 fe.conn, .int .i64 fe.n, .slice B9 fe.b.length d9] 34) = wa := ⟨_, rfl⟩
          obtain ⟨g9, hg9⟩ : ∃ g9, w9.heap.size = g9 := ⟨_, rfl⟩
          rw [hwa] at xb ba
          rw [hg9] at ba
          have XB := hid xb
          have BA := hid ba
          have HWA := hid hwa
          have HG9 := hid hg9
          have KEEP : Hid (∀ W, Ext wa W → W.cell? ⟨g9, 0, none⟩ = some (.int .i64 fe.kind) ∧ W.cell? ⟨g9, 1, none⟩ = some (.int .i64 fe.sort) ∧ W.cell? ⟨g9, 2, none⟩ = some (.int .i64 fe.who) ∧ W.cell? ⟨g9, 3, none⟩ = some (.int .i64 fe.port) ∧ W.cell? ⟨g9, 4, none⟩ = some (.int .i64 fe.conn) ∧ W.cell? ⟨g9, 5, none⟩ = some (.int .i64 fe.n) ∧ W.cell? ⟨g9, 6, none⟩ = some (.slice B9 fe.b.length d9) ∧ W.cell? ⟨b, o + j * 7, none⟩ = some (.int .i64 e.kind) ∧ W.cell? ⟨b, o + j * 7 + 1, none⟩ = some (.int .i64 e.sort) ∧ W.cell? ⟨b, o + j * 7 + 2, none⟩ = some (.int .i64 e.who) ∧ W.cell? ⟨b, o + j * 7 + 3, none⟩ = some (.int .i64 e.port) ∧ W.cell? ⟨b, o + j * 7 + 4, none⟩ = some (.int .i64 e.conn) ∧ W.cell? ⟨b, o + j * 7 + 5, none⟩ = some (.int .i64 e.n) ∧ W.cell? ⟨b, o + j * 7 + 6, none⟩ = some (.slice B e.b.length d)) := hid (fun W x => (by
            have b2 := BA.out.ext x
            obtain ⟨q0, q1, q2, q3, q4, q5, q6⟩ := XC.out W (ext_trans X9.out (ext_trans XB.out x))
            exact ⟨b2.cell 0, b2.cell 1, b2.cell 2, b2.cell 3, b2.cell 4, b2.cell 5, b2.cell 6, q0, q1, q2, q3, q4, q5, q6⟩))
          have CS := hid (fun W (x : Ext wa W) => rf_same (RdG.ext RD9.out (ext_trans XB.out x)) (RdG.ext XR.out (ext_trans X9.out (ext_trans XB.out x))))
          unfold cellsE
          clear o9 s9 xb ba hwa hg9 x0 x1 x2 x3 x4 x5 x6
          go_upto_region 10 with (fail)
          rw [HWA.out, HG9.out]
          go_region_held3 (fun W => W.cell? ⟨g9, 0, none⟩ = some (.int .i64 fe.kind) ∧ W.cell? ⟨g9, 1, none⟩ = some (.int .i64 fe.sort) ∧ W.cell? ⟨g9, 2, none⟩ = some (.int .i64 fe.who) ∧ W.cell? ⟨g9, 3, none⟩ = some (.int .i64 fe.port) ∧ W.cell? ⟨g9, 4, none⟩ = some (.int .i64 fe.conn) ∧ W.cell? ⟨g9, 5, none⟩ = some (.int .i64 fe.n) ∧ W.cell? ⟨g9, 6, none⟩ = some (.slice B9 fe.b.length d9) ∧ W.cell? ⟨b, o + j * 7, none⟩ = some (.int .i64 e.kind) ∧ W.cell? ⟨b, o + j * 7 + 1, none⟩ = some (.int .i64 e.sort) ∧ W.cell? ⟨b, o + j * 7 + 2, none⟩ = some (.int .i64 e.who) ∧ W.cell? ⟨b, o + j * 7 + 3, none⟩ = some (.int .i64 e.port) ∧ W.cell? ⟨b, o + j * 7 + 4, none⟩ = some (.int .i64 e.conn) ∧ W.cell? ⟨b, o + j * 7 + 5, none⟩ = some (.int .i64 e.n) ∧ W.cell? ⟨b, o + j * 7 + 6, none⟩ = some (.slice B e.b.length d)) (first | exact KEEP.out _ (ext_refl _) | exact KEEP.out _ (ext_drew _) | exact KEEP.out _ X10.out | go_keep) ((go_at_call 34; refine (CS.out _ (ext_drew _)).mono ?_; rintro r10 w10 ⟨rfl, x10⟩; rw [HRR.out]; have X10 : Hid (Ext wa w10) := hid (ext_trans (ext_drew _) x10); clear x10))
          cases rr with
          | false =>
            have hne : ¬ fe = e := by simpa using HRR.out
            have hbad := bytes_bad L (by rw [HLM.out]; exact HBIG.out) HMEM.out (fun hf => hne (by
              have := hf.2
              rw [HLB.out, HFE.out] at this
              exact this))
            have hz2 : z = 2 := by rw [← HZ.out, hbad]
            subst hz2
            clear hbad hne
            go_wp2_with fail
            go_ret
            exact ⟨rfl, ext_trans HX.out (ext_trans X9.out (ext_trans XB.out X10.out))⟩
          | true =>
            have hfe : fe = e := by simpa using HRR.out
            have FIT : Hid (fit e) := hid ⟨hb4, by rw [HLB.out, HFE.out]; exact hfe⟩
            clear hfe
            go_wp2_with fail
            go_roundw
            case rel =>
              refine ⟨j + 1, by omega, by go_num, ext_trans HX.out (ext_trans X9.out (ext_trans XB.out X10.out)), fun y hy => ?_⟩
              rw [HTK.out, List.mem_append, List.mem_singleton] at hy
              rcases hy with hy | rfl
              · exact HFIT.out y hy
              · exact FIT.out
            case measure => simp [intOf]; omega
      · obtain rfl : j = m := by omega
        have i2 : ¬ (j : Int) < (j : Int) := by omega
        have HX := hid hx
        have e1 : L.take j = L := by rw [← HLM.out, List.take_length]
        rw [e1] at hfit
        have hz0 : z = 0 := by
          rw [← HZ.out]
          unfold bytesS
          rw [if_neg (by rw [HLM.out]; exact HBIG.out), if_pos hfit]
        subst hz0
        clear hx hfit
        go_wp2_with fail
        go_ret
        exact ⟨rfl, HX.out⟩
def RyRel (w : World) (L : List Ev) (m : Nat) (ov iv : Value) (wr : World) : Prop :=
  ∃ j O co q, j ≤ m ∧ iv = .int .i64 (j : Nat) ∧ q = (L.take j).flatMap layS ∧ ov = .slice O q.length co ∧ Own wr w.heap.size 5 O co q ∧ Ext w wr ∧ q.length ≤ j * 12301
set_option maxHeartbeats 4000000 in
set_option maxRecDepth 100000 in
theorem rf_bytes_all (h : EvR w A c M) : Calls Try.prog 23 #[.slice A M.length c] w fun r w' => BytD w w' (M.map Em.e) r := by
  obtain ⟨L, hL⟩ : ∃ L, M.map Em.e = L := ⟨_, rfl⟩
  obtain ⟨m, hm⟩ : ∃ m, M.length = m := ⟨_, rfl⟩
  have hLm : L.length = m := by rw [← hL, List.length_map, hm]
  have CC := rf_check h
  rw [hL, hm] at CC
  have HLL := hid hL
  have HLM := hid hLm
  have H := hid h
  have HM := hid hm
  rw [hm, hL]
  clear h hm hL hLm
  rcases bytes_cases L with ⟨hk, hfit, hn⟩ | ⟨k, hk, hkk⟩
  · rw [hk] at CC
    have CC := hid CC
    have HK := hid hk
    have HFIT := hid hfit
    rw [HLM.out] at hn
    obtain ⟨i0, hi0, hz0, hz1, hz2⟩ := info_parts info_u8
    clear hk hfit
    go_enter Try.func23, Try.ntmps23
    go_wp2_with fail
    refine CC.out.mono ?_
    rintro r w1 ⟨rfl, x1⟩
    have START : Hid (RyRel w L m (.slice none 0 0) (.int .i64 0) w1) := hid ⟨0, none, 0, [], Nat.zero_le _, rfl, rfl, rfl, Own.nil _ _ _, x1, by simp⟩
    clear x1
    go_wp2_with fail
    go_loopw [5, 6] (fun ov iv wr => RyRel w L m ov iv wr) (fun _ iv _ => m - (intOf iv).toNat)
    case atStart => exact START.out
    case round =>
      obtain ⟨j, O, co, q, hj, rfl, hq, rfl, ow0, hx, hql⟩ := hrel
      by_cases hlt : j < m
      · have i2 : (j : Int) < (m : Int) := by omega
        have hlt1 : j < M.length := by rw [HM.out]; exact hlt
        obtain ⟨b, o, hA, hb, hc⟩ := (H.out.ext hx).at_ (by omega)
        obtain ⟨x, hxm, hxe, x0, x1, x2, x3, x4, x5, x6, xr⟩ := hc j hlt1
        obtain ⟨htk, hmem⟩ := el_mem HLL.out hlt1 hxe
        obtain ⟨e, B, d⟩ := x
        simp only at x0 x1 x2 x3 x4 x5 x6 xr htk hmem
        subst hA
        have hb4 := (HFIT.out e hmem).1
        have LN := layS_len e hb4
        have CL := hid (rf_lay xr hb4)
        have HTK := hid htk
        have HQ := hid hq
        have OW := hid ow0
        have HX := hid hx
        have hql2 : q.length ≤ 4096 * 12301 := Nat.le_trans hql (Nat.mul_le_mul_right _ (by omega))
        clear hc hxm hxe xr hx htk hmem hq ow0
        go_wp2_with fail
        refine CL.out.mono ?_
        rintro r w7 ⟨O7, c7, rfl, o7, x7⟩
        obtain ⟨lb, hlb⟩ : ∃ lb, layS e = lb := ⟨_, rfl⟩
        rw [hlb] at o7 LN ⊢
        have HLB := hid hlb
        obtain ⟨ql, hqln⟩ : ∃ ql, q.length = ql := ⟨_, rfl⟩
        obtain ⟨ll, hlln⟩ : ∃ ll, lb.length = ll := ⟨_, rfl⟩
        have OW7 : OwnG isU8 w7 w.heap.size 5 1 O ql co (q.map u8v) := by rw [← hqln]; exact OwnG.ext OW.out x7
        have RD7 : RdG w7 1 O7 ll c7 (lb.map u8v) := by rw [← hlln]; exact OwnG.rd o7
        have X7 := hid (ext_trans HX.out x7)
        have hz7 : w.heap.size ≤ w7.heap.size := X7.out.size
        rw [hqln] at hql hql2 ⊢
        rw [hlln] at LN ⊢
        have HQL := hid hqln
        have HLN := hid hlln
        clear o7 x7 hlb hqln hlln
        go_wp2_with (at_builtin; go_must (refine wpList_append_g (ok := isU8) rfl (.tmp 24) (.tmp 25) 22 rfl w.heap.size 5 i0 (.int .u8 0) 1 1 Try.underlying22 hi0 hz0 hz1 hz2 rfl (by decide) (by simp [Value.cells]; exact ⟨0, rfl⟩) (fun _ h => h.one) rfl OW7 rfl RD7 (isU8_map _) (by omega) (by unfold maxLen; omega) hz7 ?_; intro A6 c6 w6 o6 g6 n6; have X6 : Hid (Ext w w6) := hid (below_of_grown X7.out hz7 g6 (fun g hg => (OwnG.lt OW7 g hg).1)); have O6 := hid o6; clear o6 g6 n6 OW7 RD7))
        go_roundw
        case rel =>
          refine ⟨j + 1, A6, c6, q ++ lb, by omega, by go_num, ?_, (by rw [List.length_append, HQL.out, HLN.out]), ?_, X6.out, (by rw [List.length_append, HQL.out, HLN.out, Nat.add_mul]; omega)⟩
          · rw [HTK.out, List.flatMap_append, HQ.out]
            simp [HLB.out]
          · unfold Own
            rw [List.length_append, List.map_append, HQL.out, HLN.out]
            exact O6.out
        case measure => simp [intOf]; omega
      · obtain rfl : j = m := by omega
        have i2 : ¬ (j : Int) < (j : Int) := by omega
        have OW := hid ow0
        have HX := hid hx
        have e1 : L.take j = L := by rw [← HLM.out, List.take_length]
        rw [e1] at hq
        have HQ := hid hq
        clear ow0 hx hq e1
        go_wp2_with fail
        refine bodyPost_ret (by simp [results, Try.results23, go_sem]; rfl) rfl ?_
        rw [BytD_eq (q := q) (k := 0) (by rw [HK.out, HQ.out])]
        exact ⟨O, co, rfl, OW.out, HX.out⟩
  · rw [hk] at CC
    have CC := hid CC
    have HK := hid hk
    have hk0 : ¬ k = 0 := by omega
    clear hk
    go_enter Try.func23, Try.ntmps23
    go_wp2_with fail
    refine CC.out.mono ?_
    rintro r w1 ⟨rfl, x1⟩
    have X1 := hid x1
    clear x1
    go_wp2_with fail
    refine bodyPost_ret (by simp [results, Try.results23, go_sem]; rfl) rfl ?_
    rw [BytD_eq HK.out]
    exact ⟨none, 0, rfl, Own.nil _ _ _, X1.out⟩
end
end Go.Proofs.Ytholjbnggnfapaa

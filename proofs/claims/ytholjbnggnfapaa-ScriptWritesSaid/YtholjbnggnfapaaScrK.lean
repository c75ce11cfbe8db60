/- Layer 29: the program's Bytes, Check. -/
import Derived.Test.YtholjbnggnfapaaScrJ
import Derived.Test.YtholjbnggnfapaaScrG
namespace Go.Proofs.Ytholjbnggnfapaa
open Go.BK Go.BK.SC Go.RowKit Go.Maps
set_option linter.unusedVariables false
set_option linter.unusedSimpArgs false
def bytesS (L : List Ev) : List UInt8 × Int := if 4096 < L.length then ([], 3) else if ∀ e ∈ L, fit e then (L.flatMap layS, 0) else ([], 2)
def BytD (w w' : World) (L : List Ev) (r : Ending) : Prop := ∃ O co, r = .returned (.tuple #[.slice O (bytesS L).1.length co, .int .i64 (bytesS L).2]) ∧ Own w' w.heap.size 5 O co (bytesS L).1 ∧ Ext w w'
theorem BytD_eq {w w' : World} {L : List Ev} {r : Ending} {q : List UInt8} {k : Int} (h : bytesS L = (q, k)) : BytD w w' L r = ∃ O co, r = .returned (.tuple #[.slice O q.length co, .int .i64 k]) ∧ Own w' w.heap.size 5 O co q ∧ Ext w w' := by
  unfold BytD
  rw [h]
theorem layS_len (e : Ev) (h : e.b.length ≤ 4096) : (layS e).length ≤ 12301 := by
  have h3 : (fieldsI e.kind).length ≤ 3 := by
    unfold fieldsI fieldsS
    split
    · split <;> simp
    · simp
  have := lay_len e (fieldsI e.kind) 4096 h3 h (fieldsI e.kind).length
  rw [List.take_length] at this
  unfold layS
  rw [List.length_cons]
  omega
theorem flat_len (L : List Ev) (h : ∀ e ∈ L, fit e) : (L.flatMap layS).length ≤ L.length * 12301 := by
  induction L with
  | nil => simp
  | cons e L ih =>
    rw [List.flatMap_cons, List.length_append, List.length_cons, Nat.add_mul]
    have h1 := layS_len e (h e (by simp)).1
    have h2 := ih fun x hx => h x (by simp [hx])
    omega
def ByRel (w : World) (L : List Ev) (m : Nat) (ov iv : Value) (wr : World) : Prop :=
  ∃ j O co q, j ≤ m ∧ iv = .int .i64 (j : Nat) ∧ q = (L.take j).flatMap layS ∧ ov = .slice O q.length co ∧ Own wr w.heap.size 5 O co q ∧ Ext w wr ∧ ∀ e ∈ L.take j, fit e
section
variable {w w' : World} {c : Nat} {A : Option Addr} {M : List Em}
theorem bytes_bad (L : List Ev) (hm : ¬ 4096 < L.length) {e : Ev} (he : e ∈ L) (hf : ¬ fit e) : bytesS L = ([], 2) := by
  unfold bytesS
  rw [if_neg hm, if_neg (fun h => hf (h e he))]
set_option maxHeartbeats 4000000 in
set_option maxRecDepth 100000 in
theorem bytes_in (h : EvR w A c M) (hw : ∀ m ∈ M, WfE m.e) : Calls Try.prog 17 #[.slice A M.length c] w fun r w' => BytD w w' (M.map Em.e) r := by
  obtain ⟨L, hL⟩ : ∃ L, M.map Em.e = L := ⟨_, rfl⟩
  obtain ⟨m, hm⟩ : ∃ m, M.length = m := ⟨_, rfl⟩
  have hLm : L.length = m := by rw [← hL, List.length_map, hm]
  have hmx : m ≤ maxLen := by rw [← hm]; exact Nat.le_trans h.1.2.1 h.1.2.2.1
  unfold maxLen at hmx
  have HLL := hid hL
  have HLM := hid hLm
  have H := hid h
  have HW := hid hw
  have HM := hid hm
  rw [hm, hL]
  clear h hw hm hL hLm
  by_cases hbig : 4096 < m
  · have i1 : (4096 : Int) < (m : Int) := by omega
    have hb : bytesS L = ([], 3) := by unfold bytesS; rw [if_pos (by rw [HLM.out]; exact hbig)]
    have HB := hid hb
    clear hb
    go_enter Try.func17, Try.ntmps17
    go_wp2_with fail
    refine bodyPost_ret (by simp [results, Try.results17, go_sem]; rfl) rfl ?_
    rw [BytD_eq HB.out]
    exact ⟨none, 0, rfl, Own.nil _ _ _, ext_refl _⟩
  · have i1 : ¬ (4096 : Int) < (m : Int) := by omega
    have HBIG := hid hbig
    have hm4 : m ≤ 4096 := by omega
    obtain ⟨i0, hi0, hz0, hz1, hz2⟩ := info_parts info_u8
    clear hbig
    go_enter Try.func17, Try.ntmps17
    go_wp2_with fail
    go_loopw [4, 15] (fun ov iv wr => ByRel w L m ov iv wr) (fun _ iv _ => m - (intOf iv).toNat)
    case atStart => exact ⟨0, none, 0, [], Nat.zero_le _, rfl, rfl, rfl, Own.nil _ _ _, ext_refl _, by simp⟩
    case round =>
      obtain ⟨j, O, co, q, hj, rfl, hq, rfl, ow, hx, hfit⟩ := hrel
      by_cases hlt : j < m
      · have i2 : (j : Int) < (m : Int) := by omega
        have hlt1 : j < M.length := by rw [HM.out]; exact hlt
        obtain ⟨b, o, hA, hb, hc⟩ := (H.out.ext hx).at_ (by omega)
        obtain ⟨x, hxm, hxe, x0, x1, x2, x3, x4, x5, x6, xr⟩ := hc j hlt1
        have hwf := HW.out x hxm
        have htk : L.take (j + 1) = L.take j ++ [x.e] := by
          have hl : j < L.length := by rw [HLM.out]; exact hlt
          rw [List.take_succ_eq_append_getElem hl]
          congr 2
          rw [← hxe, getD_el hlt1]
          have : L[j]? = some (M[j].e) := by rw [← HLL.out, List.getElem?_map, List.getElem?_eq_getElem hlt1]; rfl
          rw [List.getElem?_eq_getElem hl] at this
          injection this
        have hmem : x.e ∈ L := by rw [← HLL.out]; exact List.mem_map_of_mem hxm
        obtain ⟨e, B, d⟩ := x
        simp only at x0 x1 x2 x3 x4 x5 x6 xr hwf htk hmem
        subst hA
        have hql : q.length ≤ 4096 * 12301 := by
          rw [hq]
          have h1 := flat_len (L.take j) hfit
          have h2 : (L.take j).length ≤ 4096 := by rw [List.length_take]; omega
          have h3 := Nat.mul_le_mul_right 12301 h2
          omega
        have hbl : e.b.length ≤ 9223372036854775807 := xr.n_le
        have xa := ext_alloc wr (.cells #[.int .i64 e.kind, .int .i64 e.sort, .int .i64 e.who, .int .i64 e.port, .int .i64 e.conn, .int .i64 e.n, .slice B e.b.length d] 34)
        have ba := Blk.new wr 34 #[.int .i64 e.kind, .int .i64 e.sort, .int .i64 e.who, .int .i64 e.port, .int .i64 e.conn, .int .i64 e.n, .slice B e.b.length d]
        obtain ⟨wa, hwa⟩ : ∃ wa, wr.alloc (.cells #[.int .i64 e.kind, .int .i64 e.sort, .int .i64 e.who, .int .i64 e.port, .int .i64 e.conn, .int .i64 e.n, .slice B e.b.length d] 34) = wa := ⟨_, rfl⟩
        rw [hwa] at xa ba
        obtain ⟨gb, hgb⟩ : ∃ gb, wr.heap.size = gb := ⟨_, rfl⟩
        rw [hgb] at ba
        have hwgb : w.heap.size ≤ gb := by rw [← hgb]; exact hx.size
        have HWA := hid hwa
        have HGB := hid hgb
        have XA := hid xa
        have BA := hid ba
        have XR := hid (RdG.ext xr xa)
        have OW := hid ow
        have HX := hid hx
        have HQ := hid hq
        have HFIT := hid hfit
        have HTK := hid htk
        have HMEM := hid hmem
        have HWF := hid hwf
        clear hc hxm hxe xr ow hx hq hfit htk hmem hwf xa ba hwa hgb
        go_upto_region 7 with (fail)
        rw [HWA.out, HGB.out]
        clear x0 x1 x2 x3 x4 x5 x6
        have k0 : wa.cell? ⟨gb, 0, none⟩ = some (.int .i64 e.kind) := BA.out.cell 0
        have k1 : wa.cell? ⟨gb, 1, none⟩ = some (.int .i64 e.sort) := BA.out.cell 1
        have k2 : wa.cell? ⟨gb, 2, none⟩ = some (.int .i64 e.who) := BA.out.cell 2
        have k3 : wa.cell? ⟨gb, 3, none⟩ = some (.int .i64 e.port) := BA.out.cell 3
        have k4 : wa.cell? ⟨gb, 4, none⟩ = some (.int .i64 e.conn) := BA.out.cell 4
        have k5 : wa.cell? ⟨gb, 5, none⟩ = some (.int .i64 e.n) := BA.out.cell 5
        have k6 : wa.cell? ⟨gb, 6, none⟩ = some (.slice B e.b.length d) := BA.out.cell 6
        by_cases hbb : 4096 < e.b.length
        · have i3 : (4096 : Int) < (e.b.length : Int) := by omega
          have hbad := bytes_bad L (by rw [HLM.out]; exact HBIG.out) HMEM.out (fun hf => by have := hf.1; omega)
          have HBAD := hid hbad
          clear hbad
          go_wp2_with fail
          refine bodyPost_ret (by simp [results, Try.results17, go_sem]; rfl) rfl ?_
          rw [BytD_eq HBAD.out]
          exact ⟨none, 0, rfl, Own.nil _ _ _, ext_trans HX.out XA.out⟩
        · have i3 : ¬ (4096 : Int) < (e.b.length : Int) := by omega
          have hb4 : e.b.length ≤ 4096 := by omega
          have LN := layS_len e hb4
          have CL := hid (lay_in XR.out HWF.out (by omega))
          clear hbb
          go_wp2_with fail
          refine CL.out.mono ?_
          rintro r w7 ⟨O7, c7, rfl, o7, x7⟩
          obtain ⟨lb, hlb⟩ : ∃ lb, layS e = lb := ⟨_, rfl⟩
          rw [hlb] at o7 LN ⊢
          have HLB := hid hlb
          have O7H := hid o7
          have X7 := hid x7
          clear o7 x7 hlb k0 k1 k2 k3 k4 k5 k6
          go_wp2_with fail
          refine (reader_in (OwnG.rd O7H.out)).mono ?_
          rintro r w8 ⟨rfl, r8, x8⟩
          obtain ⟨rb, hrb⟩ : ∃ rb, w7.heap.size = rb := ⟨_, rfl⟩
          obtain ⟨ra, hra⟩ : ∃ ra, w7.heap.size + 1 = ra := ⟨_, rfl⟩
          rw [hra] at r8 ⊢
          rw [hrb] at r8 ⊢
          have hwr9 : wr.heap.size ≤ w7.heap.size := Nat.le_trans XA.out.size X7.out.size
          have hwr8 : w7.heap.size ≤ w8.heap.size := x8.size
          have hzab : gb < rb ∧ gb < ra ∧ w7.heap.size ≤ ra := by
            have h1 := x8.size
            have h2 := X7.out.size
            have h3 := BA.out.lt
            omega
          have R8 : Hid (RL w8 ra rb O7 c7 lb lb) := hid ⟨0, r8, rfl⟩
          have X8 := hid x8
          have B8 := hid ((BA.out.ext X7.out).ext x8)
          have XR8 := hid (RdG.ext (RdG.ext XR.out X7.out) x8)
          clear r8 x8 hra hrb
          have XS : Hid (∀ w9, Shy (fun k => k = ra) w8.drew w9 → Rd w9 B d e.b) := hid (fun w9 s9 => by
            rcases Nat.eq_zero_or_pos e.b.length with h0 | h0
            · have e1 : e.b = [] := List.eq_nil_of_length_eq_zero h0
              have hr := XR8.out
              rw [e1] at hr ⊢
              exact RdG.zero w9 1 B d (RdG.cap hr).2
            · obtain ⟨b', h1, h2⟩ := RdG.lt XR.out h0
              refine s9.rd (RdG.ext XR8.out (ext_drew _)) (fun k hk e => ?_)
              rw [hk] at h1
              injection h1 with h1
              have := X7.out.size
              omega)
          have XW : Hid (∀ w9, Shy (fun k => k = ra) w8.drew w9 → Ext wr w9 ∧ Own w9 w.heap.size 5 O co q ∧ RdG w9 1 O7 lb.length c7 (lb.map u8v)) := hid (fun w9 s9 => by
            refine ⟨?_, ?_, ?_⟩
            · exact Below.trans (ext_trans XA.out (ext_trans X7.out (ext_trans X8.out (ext_drew _)))) (s9.below (by simp; omega) (fun k hk e => by omega))
            · exact s9.ownG (OwnG.ext OW.out (ext_trans XA.out (ext_trans X7.out (ext_trans X8.out (ext_drew _))))) (fun k hk e => by have := (OwnG.lt OW.out k hk).2; omega)
            · exact s9.rdG (RdG.ext (OwnG.rd O7H.out) (ext_trans X8.out (ext_drew _))) (fun k hk e => by have := (OwnG.lt O7H.out k hk).2; omega))
          unfold nxF
          obtain ⟨fe, hfe⟩ : ∃ fe, (evS lb).1 = fe := ⟨_, rfl⟩
          obtain ⟨rr, hrr⟩ : ∃ rr, decide (fe = e) = rr := ⟨_, rfl⟩
          have HFE := hid hfe
          have HRR := hid hrr
          have CE := hid (event_in (R8.out.ext (ext_drew _)))
          have CS := hid (fun W B9 d9 (h9 : Rd W B9 d9 fe.b) (h10 : Rd W B d e.b) => same_in h9 h10)
          have EVD := hid (fun (r : Ending) (w9 : World) (h : EvD w8.drew w9 ra rb O7 c7 lb lb r) => show ∃ B9 d9, r = .returned (.agg #[.int .i64 fe.kind, .int .i64 fe.sort, .int .i64 fe.who, .int .i64 fe.port, .int .i64 fe.conn, .int .i64 fe.n, .slice B9 fe.b.length d9]) ∧ Rd w9 B9 d9 fe.b ∧ Shy (fun k => k = ra) w8.drew w9 from by
            obtain ⟨B9, d9, h1, h2, _, h3⟩ := h
            rw [hfe] at h1 h2
            exact ⟨B9, d9, h1, OwnG.rd h2, h3⟩)
          have KEEP : Hid (∀ W, Blk W gb 34 #[.int .i64 e.kind, .int .i64 e.sort, .int .i64 e.who, .int .i64 e.port, .int .i64 e.conn, .int .i64 e.n, .slice B e.b.length d] → W.cell? ⟨gb, 0, none⟩ = some (.int .i64 e.kind) ∧ W.cell? ⟨gb, 1, none⟩ = some (.int .i64 e.sort) ∧ W.cell? ⟨gb, 2, none⟩ = some (.int .i64 e.who) ∧ W.cell? ⟨gb, 3, none⟩ = some (.int .i64 e.port) ∧ W.cell? ⟨gb, 4, none⟩ = some (.int .i64 e.conn) ∧ W.cell? ⟨gb, 5, none⟩ = some (.int .i64 e.n) ∧ W.cell? ⟨gb, 6, none⟩ = some (.slice B e.b.length d)) := hid (fun W h => ⟨h.cell 0, h.cell 1, h.cell 2, h.cell 3, h.cell 4, h.cell 5, h.cell 6⟩)
          clear hfe hrr
          go_wp2_with fail
          go_region_held3 (fun W => W.cell? ⟨gb, 0, none⟩ = some (.int .i64 e.kind) ∧ W.cell? ⟨gb, 1, none⟩ = some (.int .i64 e.sort) ∧ W.cell? ⟨gb, 2, none⟩ = some (.int .i64 e.who) ∧ W.cell? ⟨gb, 3, none⟩ = some (.int .i64 e.port) ∧ W.cell? ⟨gb, 4, none⟩ = some (.int .i64 e.conn) ∧ W.cell? ⟨gb, 5, none⟩ = some (.int .i64 e.n) ∧ W.cell? ⟨gb, 6, none⟩ = some (.slice B e.b.length d)) (first | exact KEEP.out _ B8.out | exact KEEP.out _ B8.out.drew | exact KEEP.out _ B9H.out | exact KEEP.out _ B10.out | go_keep) ((first | (go_at_call 27; refine CE.out.mono ?_; intro r9 w9 h9; obtain ⟨B9, d9, rfl, rd9, s9⟩ := EVD.out _ _ h9; have B9H := hid (B8.out.drew.shy s9 (by omega)); have RD9 := hid rd9; have S9 := hid s9; clear h9 rd9 s9) | (go_at_call 32; refine (CS.out _ _ _ RD9.out (XS.out _ S9.out)).mono ?_; rintro r10 w10 ⟨rfl, x10⟩; rw [HRR.out]; have B10 := hid (B9H.out.ext x10); have X10 := hid x10; clear x10)))
          obtain ⟨xw, ow9, rd9⟩ := XW.out _ S9.out
          have OW10 : OwnG isU8 w10 w.heap.size 5 1 O q.length co (q.map u8v) := OwnG.ext ow9 X10.out
          have RD10 := RdG.ext rd9 X10.out
          have XWW := hid (ext_trans xw X10.out)
          have hz10 : w.heap.size ≤ w10.heap.size := Nat.le_trans HX.out.size (Nat.le_trans xw.size X10.out.size)
          clear xw ow9 rd9
          cases rr with
          | false =>
            clear OW10 RD10 hz10
            have hne : ¬ fe = e := by simpa using HRR.out
            have hbad := bytes_bad L (by rw [HLM.out]; exact HBIG.out) HMEM.out (fun hf => hne (by
              have := hf.2
              rw [HLB.out, HFE.out] at this
              exact this))
            have HBAD := hid hbad
            clear hbad hne
            go_wp2_with fail
            refine bodyPost_ret (by simp [results, Try.results17, go_sem]; rfl) rfl ?_
            rw [BytD_eq HBAD.out]
            exact ⟨none, 0, rfl, Own.nil _ _ _, ext_trans HX.out XWW.out⟩
          | true =>
            have hfe : fe = e := by simpa using HRR.out
            have FIT : Hid (fit e) := hid ⟨hb4, by rw [HLB.out, HFE.out]; exact hfe⟩
            clear hfe
            obtain ⟨ql, hqln⟩ : ∃ ql, q.length = ql := ⟨_, rfl⟩
            obtain ⟨ll, hlln⟩ : ∃ ll, lb.length = ll := ⟨_, rfl⟩
            rw [hqln] at OW10 hql ⊢
            rw [hlln] at RD10 LN ⊢
            have HQL := hid hqln
            have HLN := hid hlln
            clear hqln hlln
            go_wp2_with (at_builtin; go_must (refine wpList_append_g (ok := isU8) rfl (.tmp 35) (.tmp 36) 22 rfl w.heap.size 5 i0 (.int .u8 0) 1 1 Try.underlying22 hi0 hz0 hz1 hz2 rfl (by decide) (by simp [Value.cells]; exact ⟨0, rfl⟩) (fun _ h => h.one) rfl OW10 rfl RD10 (isU8_map _) (by omega) (by unfold maxLen; omega) hz10 ?_; intro A6 c6 w6 o6 g6 n6; have X6 : Hid (Ext w w6) := hid (below_of_grown (ext_trans HX.out XWW.out) hz10 g6 (fun g hg => (OwnG.lt OW10 g hg).1)); have O6 := hid o6; clear o6 g6 n6 OW10 RD10))
            go_roundw
            case rel =>
              refine ⟨j + 1, A6, c6, q ++ lb, by omega, by go_num, ?_, (by rw [List.length_append, HQL.out, HLN.out]), ?_, X6.out, fun y hy => ?_⟩
              · rw [HTK.out, List.flatMap_append, HQ.out]
                simp [HLB.out]
              · unfold Own
                rw [List.length_append, List.map_append, HQL.out, HLN.out]
                exact O6.out
              · rw [HTK.out, List.mem_append, List.mem_singleton] at hy
                rcases hy with hy | rfl
                · exact HFIT.out y hy
                · exact FIT.out
            case measure => simp [intOf]; omega
      · obtain rfl : j = m := by omega
        have OW := hid ow
        have HX := hid hx
        have HFIT := hid hfit
        have HQ := hid hq
        clear ow hx hfit hq
        go_wp2_with fail
        refine bodyPost_ret (by simp [results, Try.results17, go_sem]; rfl) rfl ?_
        have e1 : L.take j = L := by rw [← HLM.out, List.take_length]
        have hf := HFIT.out
        rw [e1] at hf
        have e2 : bytesS L = (q, 0) := by
          unfold bytesS
          rw [if_neg (by rw [HLM.out]; exact HBIG.out), if_pos hf, HQ.out, e1]
        rw [BytD_eq e2]
        exact ⟨O, co, rfl, OW.out, HX.out⟩
set_option maxHeartbeats 1000000 in
theorem check_in (h : EvR w A c M) (hw : ∀ m ∈ M, WfE m.e) : Calls Try.prog 24 #[.slice A M.length c] w fun r w' => r = .returned (.int .i64 (bytesS (M.map Em.e)).2) ∧ Ext w w' := by
  have C := hid (bytes_in h hw)
  obtain ⟨n, hn⟩ : ∃ n, M.length = n := ⟨_, rfl⟩
  rw [hn] at C ⊢
  obtain ⟨q, hq⟩ : ∃ q, bytesS (M.map Em.e) = q := ⟨_, rfl⟩
  have D := hid (fun w' r (h : BytD w w' (M.map Em.e) r) => (BytD_eq (q := q.1) (k := q.2) hq ▸ h))
  rw [hq]
  clear h hw hn hq
  go_enter Try.func24, Try.ntmps24
  go_wp2_with fail
  refine C.out.mono ?_
  intro r w' hr
  obtain ⟨O, co, rfl, _, x⟩ := D.out _ _ hr
  have X := hid x
  clear hr x
  go_wp2_with fail
  go_ret
  exact ⟨rfl, X.out⟩
end
end Go.Proofs.Ytholjbnggnfapaa

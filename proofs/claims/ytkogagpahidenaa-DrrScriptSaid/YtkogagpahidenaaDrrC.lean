/- Layer 21: Clients, Drop, Put. -/
import Derived.Test.YtkogagpahidenaaDrrB
namespace Go.Proofs.Ytkogagpahidenaa
open Go.BK Go.BK.DR Go.RowKit Go.Maps
set_option linter.unusedVariables false

theorem info_parts {o : Option TypeInfo} {z : Option Value} {s b : Nat} (h : o.map (fun i => (i.zero, i.size, i.bytes)) = some (z, s, b)) : ∃ i, o = some i ∧ i.zero = z ∧ i.size = s ∧ i.bytes = b := by
  cases o with
  | none => cases h
  | some i => simp at h; exact ⟨i, rfl, h.1, h.2.1, h.2.2⟩
theorem info_int : (Try.prog.info? 3).map (fun i => (i.zero, i.size, i.bytes)) = some (some (.int .i64 0), 1, 8) := by kernel_rfl
theorem info_item : (Try.prog.info? 66).map (fun i => (i.zero, i.size, i.bytes)) = some (some (.agg #[.int .i64 0, .int .i64 0]), 2, 16) := by kernel_rfl
def isI (v : Value) : Prop := ∃ n : Int, v = .int .i64 n
theorem isI.one {v : Value} (h : isI v) : v.oneCell' = true := by obtain ⟨n, rfl⟩ := h; rfl
def intsV (l : List Int) : List Value := l.map fun n => .int .i64 n
section
variable {w : World} {g lb mb : Nat} {p : Par} {R R1 R2 : List Row} {r : Row} {t : Bool} {n : Int}
/-- What is told of the ring so far. -/
def CliRel (w : World) (g lb mb : Nat) (p : Par) (R : List Row) (t : Bool) (n : Int) (o e : Value) (wr : World) : Prop :=
  ∃ D S A c, R = D ++ S ∧ o = .slice A D.length c ∧ e = frontV (S.map eltR) ∧ OwnG isI wr w.heap.size 3 1 A D.length c (intsV (D.map fun r => r.cl.n)) ∧ QR wr g lb mb p R t n ∧ Ext w wr
def leftC (w : World) (R : List Row) (o : Value) : Nat := R.length - (match o with | .slice _ n _ => n | _ => 0)
set_option maxHeartbeats 4000000 in
set_option maxRecDepth 100000 in
theorem clients_any (h : QR w g lb mb p R t n) : Calls Try.prog 15 #[.pointer (some ⟨g, 0, none⟩)] w fun e w' => ∃ A c, e = .returned (.slice A R.length c) ∧ OwnG isI w' w.heap.size 3 1 A R.length c (intsV (R.map fun r => r.cl.n)) ∧ Ext w w' := by
  obtain ⟨_, _, _, _, c4, _, _, _, cf⟩ := h.cells
  have C := hid (none_no h)
  have C1 := chain_front h.ring
  obtain ⟨v0, hv0⟩ : ∃ v, frontV (R.map eltR) = v := ⟨_, rfl⟩
  rw [hv0] at C1
  have C1 := hid C1
  have HV := hid hv0
  have hle := h.ring.le
  simp only [List.length_map] at hle
  obtain ⟨i0, hi, hz0, hz1, hz2⟩ := info_parts info_int
  have H := hid h
  have HLE := hid hle
  clear h hle hv0
  go_enter Try.func15, Try.ntmps15
  go_wp2_with fail
  refine C.out.mono ?_
  rintro e _ ⟨rfl, rfl⟩
  go_wp2_with fail
  refine C1.out.mono ?_
  rintro e _ ⟨rfl, rfl⟩
  go_wp2_with fail
  go_loopw [3, 4] (fun o e wr => CliRel w g lb mb p R t n o e wr) (fun o _ _ => leftC w R o)
  case atStart => exact ⟨[], R, none, 0, rfl, rfl, HV.out.symm, OwnG.nil _ _ _ _ _, H.out, Below.refl _ _⟩
  case round =>
    obtain ⟨D, S, A, c, hR, rfl, he, ow, q, x⟩ := hrel
    cases S with
    | nil =>
      simp only [List.map_nil, frontV] at he
      subst he
      have OW := hid ow
      have X := hid x
      have HR := hid hR
      clear ow x q hR
      go_wp2_with fail
      go_ret
      refine ⟨A, c, ?_, ?_, X.out⟩
      · rw [HR.out]; simp
      · rw [HR.out]; simpa using OW.out
    | cons r S =>
      simp only [List.map_cons, frontV, eltR, pt] at he
      subst he
      have hr : r ∈ R := by rw [hR]; simp
      have C2 := hid (of_row q hr)
      obtain ⟨d0, _⟩ := q.ccells hr
      have hlen : D.length + 1 ≤ 1000000 := by have := HLE.out; rw [hR] at this; simp at this; omega
      have HR := hid hR
      have Q := hid q
      have X := hid x
      have hsz := x.size
      clear q hR x
      go_wp2_with fail
      refine C2.out.mono ?_
      rintro e _ ⟨rfl, rfl⟩
      go_wp2_with (at_builtin; go_must (refine wpList_append_1' rfl (.tmp 16) (.tmp 22) 22 rfl w.heap.size 3 i0 (.int .i64 0) 8 Try.underlying22 hi hz0 hz1 hz2 rfl ⟨0, rfl⟩ (fun _ h => h.one) rfl ow (.int .i64 r.cl.n) (by rfl) ⟨_, rfl⟩ (by omega) (by unfold maxLen; omega) hsz ?_); intro A5 c5 w5 o5 g5 x5 n5; have X5 := hid (below_of_grown X.out hsz g5 (fun g hg => (ow.lt g hg).1)); have Q5 := hid (Q.out.shy (U := fun k => w.heap.size ≤ k) ((shy_of_grown g5).mono fun k _ e => (ow.lt k e).1) (fun k hk e => by have := H.out.lt k hk; omega)); have C3 := hid (chain_next (A := D.map eltR) (x := eltR r) (B := S.map eltR) (by have := Q5.out.ring; rw [HR.out, List.map_append, List.map_cons] at this; exact this)); have O5 := hid o5; clear o5 g5 x5 ow hsz d0)
      refine C3.out.mono ?_
      rintro e w6 ⟨rfl, nq, rfl⟩
      obtain ⟨v1, hv1⟩ : ∃ v, frontV (S.map eltR) = v := ⟨_, rfl⟩
      rw [hv1]
      have HV1 := hid hv1
      clear hv1
      go_wp2_with fail
      go_roundw
      case rel =>
        refine ⟨D ++ [r], S, A5, c5, by rw [HR.out]; simp, by simp, HV1.out.symm, ?_, Q5.out.ext (ext_drewN _ _), ext_trans X5.out (ext_drewN _ _)⟩
        have := O5.out.ext (ext_drewN w5 nq)
        simpa [intsV] using this
      case measure =>
        have := HR.out
        unfold leftC
        rw [this]
        simp
        omega
theorem cellsI_at {L : List (Int × Int)} {i : Nat} (h : i < L.length) : (cellsI L)[i * 2]? = some (.int .i64 (L.getD i (0, 0)).1) ∧ (cellsI L)[i * 2 + 1]? = some (.int .i64 (L.getD i (0, 0)).2) := by
  induction L generalizing i with
  | nil => simp at h
  | cons x L ih =>
    cases i with
    | zero => simp [cellsI]
    | succ i =>
      have := ih (i := i) (by simpa using h)
      rw [show (i + 1) * 2 = i * 2 + 1 + 1 from by omega]
      simpa [cellsI] using this
/-- A client's items, where they stand. -/
theorem QR.items (h : QR w g lb mb p R t n) (hr : r ∈ R) (hL : r.cl.L ≠ []) : ∃ b o, r.A = some ⟨b, o, none⟩ ∧ b < w.heap.size ∧ ∀ i, i < r.cl.L.length → w.cell? ⟨b, o + i * 2, none⟩ = some (.int .i64 (r.cl.L.getD i (0, 0)).1) ∧ w.cell? ⟨b, o + i * 2 + 1, none⟩ = some (.int .i64 (r.cl.L.getD i (0, 0)).2) := by
  obtain ⟨b, o, hA, hb, hc⟩ := (h.own r hr).rd.2.2.2 (List.length_pos_iff.2 hL)
  refine ⟨b, o, hA, hb, fun i hi => ?_⟩
  obtain ⟨c1, c2⟩ := cellsI_at hi
  exact ⟨hc _ _ c1, by rw [Nat.add_assoc]; exact hc _ _ c2⟩
set_option maxHeartbeats 1000000 in
theorem drop_no (h : QR w g lb mb p R t n) (a : Int) (ha : wfI a) (hno : ∀ r ∈ R, r.cl.n ≠ a) : Calls Try.prog 18 #[.pointer (some ⟨g, 0, none⟩), .int .i64 a] w fun e w' => e = .returned (.slice none 0 0) ∧ w = w' := by
  obtain ⟨_, _, _, _, _, c5, _, _, cf⟩ := h.cells
  have hl := h.look ha
  rw [tab_no h.dn hno] at hl
  simp only [Option.getD_none, Option.isSome_none] at hl
  have C := hid (none_no h)
  clear h
  go_enter Try.func18, Try.ntmps18
  go_wp2_with fail
  refine C.out.mono ?_
  rintro e _ ⟨rfl, rfl⟩
  go_wp2
  go_ret
  exact ⟨rfl, rfl⟩
def DropRel (w : World) (g lb mb : Nat) (p : Par) (R : List Row) (t : Bool) (n : Int) (L : List (Int × Int)) (o i : Value) (wr : World) : Prop :=
  ∃ k A c, k ≤ L.length ∧ i = .int .i64 (k : Nat) ∧ o = .slice A k c ∧ OwnG isI wr w.heap.size 3 1 A k c (intsV ((L.take k).map Prod.snd)) ∧ QR wr g lb mb p R t n ∧ Ext w wr
set_option maxHeartbeats 4000000 in
set_option maxRecDepth 100000 in
theorem drop_yes (h : QR w g lb mb p (R1 ++ r :: R2) t n) (hL : r.cl.L ≠ []) (hn : r.cl.L.length ≤ n ∧ n ≤ 1000000) : Calls Try.prog 18 #[.pointer (some ⟨g, 0, none⟩), .int .i64 r.cl.n] w fun e w' => ∃ A c, e = .returned (.slice A r.cl.L.length c) ∧ OwnG isI w' w.heap.size 3 1 A r.cl.L.length c (intsV (r.cl.L.map Prod.snd)) ∧
    QR w' g lb mb p (R1 ++ R2) (if R1 = [] then false else t) (n - r.cl.L.length) ∧ Shy (ownsQ g lb mb (R1 ++ r :: R2)) w w' := by
  obtain ⟨_, _, _, _, _, c5, _, _, cf⟩ := h.cells
  have hr : r ∈ R1 ++ r :: R2 := by simp
  obtain ⟨_, _, d2, _⟩ := h.ccells hr
  have hl := h.look (h.wf r hr)
  rw [tab_at h.dn hr] at hl
  simp only [Option.getD_some, Option.isSome_some, pt] at hl
  obtain ⟨b, o, hA, hb, hcell⟩ := h.items hr hL
  have C := hid (none_no h)
  have C2 := hid (of_row h hr)
  have hc9 := (h.own r hr).rd.n_le
  obtain ⟨i0, hi, hz0, hz1, hz2⟩ := info_parts info_int
  have H := hid h
  obtain ⟨A, hA'⟩ : ∃ A, r.A = A := ⟨_, rfl⟩
  rw [hA'] at d2 hA
  subst hA
  obtain ⟨m, hm⟩ : ∃ m : Nat, r.cl.L.length = m := ⟨_, rfl⟩
  obtain ⟨L, hLL⟩ : ∃ L, r.cl.L = L := ⟨_, rfl⟩
  rw [hm] at d2 hc9 hn
  rw [hLL] at hcell hm
  have HM := hid hm
  have HL := hid hLL
  have HN := hid hn
  have hcell := hid hcell
  have hm6 : (m : Int) ≤ 1000000 := by omega
  have e0 : r.cl.L.length = m := by rw [hLL, hm]
  rw [e0]
  rw [show r.cl.L.map Prod.snd = L.map Prod.snd from by rw [hLL]]
  obtain ⟨tt, htt⟩ : ∃ tt, (if R1 = [] then false else t) = tt := ⟨_, rfl⟩
  rw [htt]
  have HTT := hid htt
  clear h hA' hm hLL e0 hn hL htt
  go_enter Try.func18, Try.ntmps18
  go_wp2_with fail
  refine C.out.mono ?_
  rintro e _ ⟨rfl, rfl⟩
  go_wp2_with fail
  refine C2.out.mono ?_
  rintro e _ ⟨rfl, rfl⟩
  go_wp2_with fail
  go_loopw [7, 29] (fun o i wr => DropRel w g lb mb p (R1 ++ r :: R2) t n L o i wr) (fun _ i _ => m - (intOf i).toNat)
  case atStart => exact ⟨0, none, 0, Nat.zero_le _, rfl, rfl, OwnG.nil _ _ _ _ _, H.out, Below.refl _ _⟩
  case round =>
    obtain ⟨k, A', c', hk, rfl, rfl, ow, q, x⟩ := hrel
    rw [HM.out] at hk
    by_cases hlt : k < m
    · have i1 : (k : Int) < (m : Int) := by omega
      obtain ⟨e1, e2⟩ := hcell.out k (by rw [HM.out]; exact hlt)
      have f1 := (x.cell (p := ⟨b, o + k * 2, none⟩) hb).trans e1
      have f2 := (x.cell (p := ⟨b, o + k * 2 + 1, none⟩) hb).trans e2
      obtain ⟨y1, hy1⟩ : ∃ y, (L.getD k (0, 0)).1 = y := ⟨_, rfl⟩
      obtain ⟨y2, hy2⟩ : ∃ y, (L.getD k (0, 0)).2 = y := ⟨_, rfl⟩
      rw [hy1] at f1
      rw [hy2] at f2
      have HY := hid hy2
      have Q := hid q
      have X := hid x
      have OW := hid ow
      have hx1 := ext_alloc wr (.cells #[.int .i64 y1, .int .i64 y2] 66)
      have ow1 := ow.ext hx1
      have hsz1 : (wr.alloc (.cells #[.int .i64 y1, .int .i64 y2] 66)).heap.size = wr.heap.size + 1 := by simp
      have hsz : w.heap.size ≤ (wr.alloc (.cells #[.int .i64 y1, .int .i64 y2] 66)).heap.size := by simp; have := x.size; omega
      have X1 := hid (ext_trans x hx1)
      have Q1 := hid (q.ext hx1)
      clear e1 e2 hy1 hy2 q x ow hx1
      go_wp2_with (at_builtin; go_must (refine wpList_append_1' rfl (.tmp 33) (.tmp 36) 22 rfl w.heap.size 3 i0 (.int .i64 0) 8 Try.underlying22 hi hz0 hz1 hz2 rfl ⟨0, rfl⟩ (fun _ h => h.one) rfl ow1 (.int .i64 y2) (by rw [hsz1]; rfl) ⟨_, rfl⟩ (by omega) (by unfold maxLen; omega) hsz ?_); intro A5 c5 w5 o5 g5 x5 n5; have X5 := hid (below_of_grown X1.out hsz g5 (fun g hg => (ow1.lt g hg).1)); have Q5 := hid (Q1.out.shy (U := fun k => w.heap.size ≤ k) ((shy_of_grown g5).mono fun k _ e => (ow1.lt k e).1) (fun k hk e => by have := H.out.lt k hk; omega)); have O5 := hid o5; clear o5 g5 x5 ow1 hsz)
      go_roundw
      case rel =>
        refine ⟨k + 1, A5, c5, by rw [HM.out]; omega, by go_num, rfl, ?_, Q5.out, X5.out⟩
        have e3 : L.take (k + 1) = L.take k ++ [L.getD k (0, 0)] := by
          have hk' : k < L.length := by rw [HM.out]; exact hlt
          rw [List.take_succ_eq_append_getElem hk']
          simp [List.getD, hk']
        rw [e3, List.map_append]
        simp only [List.map_cons, List.map_nil]
        rw [HY.out]
        have := O5.out
        simpa [intsV] using this
      case measure => simp [intOf]; omega
    · obtain rfl : k = m := by omega
      have q2 := q.set_n (n - (k : Nat))
      have s2 := set_shy g 7 (.int .i64 (n - (k : Nat))) wr
      have CL := leaves_row q2
      rw [HTT.out] at CL
      have CL := hid CL
      have q7 := q.top.cell 7
      have qf := q.top.frozen
      simp at q7
      have hN := HN.out
      have i1 : ¬ (k : Int) < (k : Int) := by omega
      have OW := hid ow
      have X := hid x
      have S2 := hid s2
      clear ow q x q2 s2 c5 hl d2
      go_wp2_with fail
      refine CL.out.mono ?_
      rintro e w6 ⟨rfl, q6, s6⟩
      have s6 := s6.mono (V := ownsQ g lb mb (R1 ++ r :: R2)) fun k _ e => ownsL.to e
      have Q6 := hid q6
      have S6 := hid s6
      clear q6 s6
      go_wp2_with fail
      go_ret
      have hb0 : Shy (ownsQ g lb mb (R1 ++ r :: R2)) w w6 := ((Shy.of_ext X.out).trans (S2.out.mono fun k _ e => .inl e) fun _ _ h => h).trans S6.out fun _ _ h => h
      refine ⟨A', c', rfl, ?_, Q6.out, hb0⟩
      have e3 : L.take k = L := List.take_of_length_le (by rw [HM.out]; exact Nat.le_refl _)
      rw [e3] at OW
      refine Shy.ownG S6.out (Shy.ownG S2.out OW.out fun j hj e => ?_) fun j hj e => ?_
      · have := (OW.out.lt j hj).1
        have := H.out.lt g (.inl rfl)
        omega
      · have := (OW.out.lt j hj).1
        have := H.out.lt j e
        omega
end
end Go.Proofs.Ytkogagpahidenaa

/- Layer 29: the small functions that the statements share. -/
import Derived.Test.YtholjbnggnfapaaScrE
import Derived.Test.YtholjbnggnfapaaKSame
namespace Go.Proofs.Ytholjbnggnfapaa
open Go.BK Go.BK.SC Go.RowKit Go.Maps
set_option linter.unusedVariables false
set_option linter.unusedSimpArgs false
/-- Events that are read. -/
def EvR (w : World) (A : Option Addr) (c : Nat) (M : List Em) : Prop := RdG w 7 A M.length c (cellsL M) ∧ ∀ m ∈ M, Rd w m.B m.d m.e.b
theorem EvL.rd {w : World} {base : Nat} {A : Option Addr} {c : Nat} {M : List Em} (h : EvL w base A c M) : EvR w A c M := ⟨h.1.rd, fun m hm => OwnG.rd (h.2.1 m hm)⟩
theorem EvR.ext {w w' : World} {A : Option Addr} {c : Nat} {M : List Em} (h : EvR w A c M) (x : Ext w w') : EvR w' A c M := ⟨h.1.ext x, fun m hm => RdG.ext (h.2 m hm) x⟩
theorem getD_el {α : Type} {M : List α} {j : Nat} {z : α} (h : j < M.length) : M.getD j z = M[j] := by simp [List.getD, h]
def em0 : Em := ⟨ev0 0, none, 0⟩
theorem cellsL_at (M : List Em) (j i : Nat) (u : Value) (hj : j < M.length) (hu : (cellsE (M.getD j em0).e (M.getD j em0).B (M.getD j em0).d)[i]? = some u) : (cellsL M)[j * 7 + i]? = some u := by
  induction M generalizing j with
  | nil => simp at hj
  | cons m M ih =>
    have e : cellsL (m :: M) = (cellsE m.e m.B m.d).toList ++ cellsL M := by simp [cellsL]
    have hi : i < 7 := by
      have := (Array.getElem?_eq_some_iff.1 hu).1
      simpa [cellsE] using this
    rw [e]
    cases j with
    | zero =>
      rw [Nat.zero_mul, Nat.zero_add, List.getElem?_append_left (by simp [cellsE]; omega)]
      simpa using hu
    | succ j =>
      rw [List.getElem?_append_right (by simp [cellsE]; omega)]
      have h2 : (j + 1) * 7 + i - (cellsE m.e m.B m.d).toList.length = j * 7 + i := by simp [cellsE]; omega
      rw [h2]
      exact ih j (by simpa using hj) (by simpa using hu)
theorem EvR.at_ {w : World} {A : Option Addr} {c : Nat} {M : List Em} (h : EvR w A c M) (h0 : 0 < M.length) : ∃ b o, A = some ⟨b, o, none⟩ ∧ b < w.heap.size ∧ ∀ j, j < M.length → ∃ m, m ∈ M ∧ M.getD j em0 = m ∧
    w.cell? ⟨b, o + j * 7, none⟩ = some (.int .i64 m.e.kind) ∧ w.cell? ⟨b, o + j * 7 + 1, none⟩ = some (.int .i64 m.e.sort) ∧ w.cell? ⟨b, o + j * 7 + 2, none⟩ = some (.int .i64 m.e.who) ∧ w.cell? ⟨b, o + j * 7 + 3, none⟩ = some (.int .i64 m.e.port) ∧
    w.cell? ⟨b, o + j * 7 + 4, none⟩ = some (.int .i64 m.e.conn) ∧ w.cell? ⟨b, o + j * 7 + 5, none⟩ = some (.int .i64 m.e.n) ∧ w.cell? ⟨b, o + j * 7 + 6, none⟩ = some (.slice m.B m.e.b.length m.d) ∧ Rd w m.B m.d m.e.b := by
  obtain ⟨b, o, hA, hlt, hc⟩ := h.1.2.2.2 h0
  refine ⟨b, o, hA, hlt, fun j hj => ⟨M.getD j em0, ?_, rfl, ?_⟩⟩
  · rw [getD_el hj]
    exact List.getElem_mem _
  · have hm : M.getD j em0 ∈ M := by
      rw [getD_el hj]
      exact List.getElem_mem _
    have k : ∀ i u, (cellsE (M.getD j em0).e (M.getD j em0).B (M.getD j em0).d)[i]? = some u → w.cell? ⟨b, o + j * 7 + i, none⟩ = some u := fun i u hu => by
      rw [Nat.add_assoc]
      exact hc _ _ (cellsL_at M j i u hj hu)
    exact ⟨k 0 _ rfl, k 1 _ rfl, k 2 _ rfl, k 3 _ rfl, k 4 _ rfl, k 5 _ rfl, k 6 _ rfl, h.2 _ hm⟩
section
variable {w w' : World} {c c2 d d2 : Nat} {A A2 B B2 : Option Addr} {e : Ev} {M M2 : List Em}
set_option maxHeartbeats 1000000 in
set_option maxRecDepth 100000 in
theorem same_event (h : Rd w B d e.b) (h2 : Rd w B2 d2 e.b) : Calls Try.prog 29 #[.agg #[.int .i64 e.kind, .int .i64 e.sort, .int .i64 e.who, .int .i64 e.port, .int .i64 e.conn, .int .i64 e.n, .slice B e.b.length d], .agg #[.int .i64 e.kind, .int .i64 e.sort, .int .i64 e.who, .int .i64 e.port, .int .i64 e.conn, .int .i64 e.n, .slice B2 e.b.length d2]] w fun r w' => r = .returned (.bool true) ∧ Ext w w' := by
  obtain ⟨k, s, wh, p, co, n, b⟩ := e
  simp only at h h2 ⊢
  have xa := ext_alloc w (.cells #[.int .i64 k, .int .i64 s, .int .i64 wh, .int .i64 p, .int .i64 co, .int .i64 n, .slice B b.length d] 34)
  have xb := ext_trans xa (ext_alloc _ (.cells #[.int .i64 k, .int .i64 s, .int .i64 wh, .int .i64 p, .int .i64 co, .int .i64 n, .slice B2 b.length d2] 34))
  have C := hid (same_yes (RdG.ext h xb) (RdG.ext h2 xb) rfl)
  have XB := hid xb
  obtain ⟨nn, hnn⟩ : ∃ nn, b.length = nn := ⟨_, rfl⟩
  rw [hnn] at C XB ⊢
  clear h h2 xa xb hnn
  go_enter Try.func29, Try.ntmps29
  go_wp2_with fail
  refine C.out.mono ?_
  rintro e w' ⟨rfl, rfl⟩
  go_wp2_with fail
  go_ret
  exact ⟨rfl, XB.out⟩
set_option maxHeartbeats 2000000 in
set_option maxRecDepth 100000 in
theorem same_events (h : EvR w A c M) (h2 : EvR w A2 c2 M2) (he : M.map Em.e = M2.map Em.e) : Calls Try.prog 12 #[.slice A M.length c, .slice A2 M2.length c2] w fun r w' => r = .returned (.bool true) ∧ Ext w w' := by
  have hl : M2.length = M.length := by simpa using (congrArg List.length he).symm
  obtain ⟨m, hm⟩ : ∃ m, M.length = m := ⟨_, rfl⟩
  have hmx : m ≤ maxLen := by rw [← hm]; exact Nat.le_trans h.1.2.1 h.1.2.2.1
  unfold maxLen at hmx
  have H := hid h
  have H2 := hid h2
  have HE := hid he
  have HL := hid hl
  have HM := hid hm
  rw [hl, hm]
  clear h h2 he hl hm
  have i0 : ((m : Int) == (m : Int)) = true := by simp
  go_enter Try.func12, Try.ntmps12
  go_wp2_with fail
  go_loopw [5] (fun iv wr => ∃ j : Nat, j ≤ m ∧ iv = .int .i64 j ∧ Ext w wr) (fun iv _ => m - (intOf iv).toNat)
  case atStart => exact ⟨0, Nat.zero_le _, rfl, ext_refl _⟩
  case round =>
    obtain ⟨j, hj, rfl, hx⟩ := hrel
    by_cases hlt : j < m
    · have hlt1 : j < M.length := by rw [HM.out]; exact hlt
      have hlt2 : j < M2.length := by rw [HL.out, HM.out]; exact hlt
      obtain ⟨b, o, hA, hb, hc⟩ := (H.out.ext hx).at_ (by omega)
      obtain ⟨b2, o2, hA2, hb2, hc2⟩ := (H2.out.ext hx).at_ (by omega)
      obtain ⟨x, hxm, hxe, x0, x1, x2, x3, x4, x5, x6, xr⟩ := hc j hlt1
      obtain ⟨y, hym, hye, y0, y1, y2, y3, y4, y5, y6, yr⟩ := hc2 j hlt2
      have hee : x.e = y.e := by
        rw [← hxe, ← hye, getD_el hlt1, getD_el hlt2]
        have h3 : (M.map Em.e)[j]? = (M2.map Em.e)[j]? := by rw [HE.out]
        rw [List.getElem?_map, List.getElem?_map, List.getElem?_eq_getElem hlt1, List.getElem?_eq_getElem hlt2] at h3
        simpa using h3
      obtain ⟨e, B, d⟩ := x
      obtain ⟨e', B2, d2⟩ := y
      simp only at hee x0 x1 x2 x3 x4 x5 x6 xr y0 y1 y2 y3 y4 y5 y6 yr
      subst hee
      subst hA; subst hA2
      have XR := hid xr
      have YR := hid yr
      have HX := hid hx
      have SC := hid (And.intro x0 (And.intro x1 (And.intro x2 (And.intro x3 (And.intro x4 (And.intro x5 (And.intro x6 (And.intro y0 (And.intro y1 (And.intro y2 (And.intro y3 (And.intro y4 (And.intro y5 y6)))))))))))))
      have i1 : (j : Int) < (m : Int) := by omega
      clear hc hc2 hxm hxe hym hye xr yr hx
      have KEEP : Hid (∀ w2, Ext wr w2 → w2.cell? ⟨b, o + j * 7, none⟩ = some (Value.int .i64 e.kind) ∧ w2.cell? ⟨b, o + j * 7 + 1, none⟩ = some (Value.int .i64 e.sort) ∧ w2.cell? ⟨b, o + j * 7 + 2, none⟩ = some (Value.int .i64 e.who) ∧ w2.cell? ⟨b, o + j * 7 + 3, none⟩ = some (Value.int .i64 e.port) ∧ w2.cell? ⟨b, o + j * 7 + 4, none⟩ = some (Value.int .i64 e.conn) ∧ w2.cell? ⟨b, o + j * 7 + 5, none⟩ = some (Value.int .i64 e.n) ∧ w2.cell? ⟨b, o + j * 7 + 6, none⟩ = some (.slice B e.b.length d) ∧ w2.cell? ⟨b2, o2 + j * 7, none⟩ = some (Value.int .i64 e.kind) ∧ w2.cell? ⟨b2, o2 + j * 7 + 1, none⟩ = some (Value.int .i64 e.sort) ∧ w2.cell? ⟨b2, o2 + j * 7 + 2, none⟩ = some (Value.int .i64 e.who) ∧ w2.cell? ⟨b2, o2 + j * 7 + 3, none⟩ = some (Value.int .i64 e.port) ∧ w2.cell? ⟨b2, o2 + j * 7 + 4, none⟩ = some (Value.int .i64 e.conn) ∧ w2.cell? ⟨b2, o2 + j * 7 + 5, none⟩ = some (Value.int .i64 e.n) ∧ w2.cell? ⟨b2, o2 + j * 7 + 6, none⟩ = some (.slice B2 e.b.length d2)) := hid (fun w2 x => (by
        have hq := fun i => x.cell (p := ⟨b, o + j * 7 + i, none⟩) hb
        have hq2 := fun i => x.cell (p := ⟨b2, o2 + j * 7 + i, none⟩) hb2
        exact ⟨(hq 0).trans x0, (hq 1).trans x1, (hq 2).trans x2, (hq 3).trans x3, (hq 4).trans x4, (hq 5).trans x5, (hq 6).trans x6, (hq2 0).trans y0, (hq2 1).trans y1, (hq2 2).trans y2, (hq2 3).trans y3, (hq2 4).trans y4, (hq2 5).trans y5, (hq2 6).trans y6⟩))
      go_upto_region 6 with (fail)
      go_region_held3 (fun W => W.cell? ⟨b, o + j * 7, none⟩ = some (Value.int .i64 e.kind) ∧ W.cell? ⟨b, o + j * 7 + 1, none⟩ = some (Value.int .i64 e.sort) ∧ W.cell? ⟨b, o + j * 7 + 2, none⟩ = some (Value.int .i64 e.who) ∧ W.cell? ⟨b, o + j * 7 + 3, none⟩ = some (Value.int .i64 e.port) ∧ W.cell? ⟨b, o + j * 7 + 4, none⟩ = some (Value.int .i64 e.conn) ∧ W.cell? ⟨b, o + j * 7 + 5, none⟩ = some (Value.int .i64 e.n) ∧ W.cell? ⟨b, o + j * 7 + 6, none⟩ = some (.slice B e.b.length d) ∧ W.cell? ⟨b2, o2 + j * 7, none⟩ = some (Value.int .i64 e.kind) ∧ W.cell? ⟨b2, o2 + j * 7 + 1, none⟩ = some (Value.int .i64 e.sort) ∧ W.cell? ⟨b2, o2 + j * 7 + 2, none⟩ = some (Value.int .i64 e.who) ∧ W.cell? ⟨b2, o2 + j * 7 + 3, none⟩ = some (Value.int .i64 e.port) ∧ W.cell? ⟨b2, o2 + j * 7 + 4, none⟩ = some (Value.int .i64 e.conn) ∧ W.cell? ⟨b2, o2 + j * 7 + 5, none⟩ = some (Value.int .i64 e.n) ∧ W.cell? ⟨b2, o2 + j * 7 + 6, none⟩ = some (.slice B2 e.b.length d2)) (first | exact SC.out | exact KEEP.out _ (ext_drew _) | exact KEEP.out _ X2.out | go_keep) ((go_at_call 29; refine (same_event (e := e) (RdG.ext XR.out (ext_drew _)) (RdG.ext YR.out (ext_drew _))).mono ?_; rintro e0 w2 ⟨rfl, x2⟩; have X2 : Hid (Ext wr w2) := hid (ext_trans (ext_drew _) x2); clear x2))
      go_wp2_with fail
      go_roundw
      case rel => exact ⟨j + 1, by omega, by go_num, ext_trans HX.out X2.out⟩
      case measure => simp [intOf]; omega
    · obtain rfl : j = m := by omega
      have HX := hid hx
      clear hx
      go_wp2_with fail
      go_ret
      exact ⟨rfl, HX.out⟩
end
end Go.Proofs.Ytholjbnggnfapaa

/- Layer 19: room, where a key must go. -/
import Derived.Test.YtnoepnbgnlolbaaRrlD
import Derived.StillTailTactics
namespace Go.Proofs.Ytnoepnbgnlolbaa
open Go.BK Go.RowKit Go.Maps
set_option linter.unusedVariables false

/-- Which key goes of the first k ones. -/
def goesK (p : Par) (now : Int) (P : List Row) : Nat → Option Nat
  | 0 => none
  | k + 1 => match P[k]? with
    | none => goesK p now P k
    | some r => if overB p now r.1.b = true then (match goesK p now P k with
        | none => some k
        | some j => match P[j]? with
          | none => some j
          | some s => if r.1.b < s.1.b then some k else some j) else goesK p now P k
def goV (o : Option Nat) : Int := match o with | none => -1 | some j => j
theorem goes_ok (p : Par) (now : Int) (P : List Row) : ∀ k j, goesK p now P k = some j → j < k ∧ ∃ r, P[j]? = some r ∧ overB p now r.1.b = true := by
  intro k
  induction k with
  | zero => intro j h; cases h
  | succ k ih =>
    intro j h
    unfold goesK at h
    rcases hr : P[k]? with _ | r
    · rw [hr] at h
      have := ih j h
      exact ⟨by omega, this.2⟩
    · rw [hr] at h
      simp only at h
      by_cases ho : overB p now r.1.b = true
      · rw [if_pos ho] at h
        rcases hg : goesK p now P k with _ | i
        · rw [hg] at h; cases h; exact ⟨by omega, r, hr, ho⟩
        · rw [hg] at h
          simp only at h
          have h2 := ih i hg
          rcases hs : P[i]? with _ | s
          · rw [hs] at h; cases h; exact ⟨by omega, h2.2⟩
          · rw [hs] at h
            simp only at h
            split at h
            · cases h; exact ⟨by omega, r, hr, ho⟩
            · cases h; exact ⟨by omega, h2.2⟩
      · rw [if_neg ho] at h
        have := ih j h
        exact ⟨by omega, this.2⟩

theorem tab_gone {P1 P2 : List Row} {r : Row} (hwf : ∀ s ∈ P1 ++ r :: P2, s.1.ok) (hd : (P1 ++ r :: P2).Pairwise (fun r s => ¬ r.is s.1.c s.1.n)) (x : Lit) : tabR (P1 ++ P2) x = delF (tabR (P1 ++ r :: P2)) (kl r.1.c r.1.n) x := by
  unfold delF
  rw [List.pairwise_append, List.pairwise_cons] at hd
  have hsep : ∀ s, s ∈ P1 ∨ s ∈ P2 → ¬ kl s.1.c s.1.n = kl r.1.c r.1.n := by
    intro s hs e
    have hso : s.1.ok := hwf s (by rcases hs with hs | hs <;> simp [hs])
    have := kl_inj hso.1 (hwf r (by simp)).1 e
    rcases hs with hs | hs
    · exact hd.2.2 s hs r (by simp) this
    · exact hd.2.1.1 s hs ⟨this.1.symm, this.2.symm⟩
  by_cases h : x = kl r.1.c r.1.n
  · rw [if_pos h]
    unfold tabR
    rw [List.find?_eq_none.2]
    · rfl
    · intro s hs e
      have e := hitR_iff.1 e
      rw [h] at e
      exact hsep s (List.mem_append.1 hs) e
  · rw [if_neg h]
    unfold tabR
    rw [List.find?_append, List.find?_append, List.find?_cons, hitR_no (Ne.symm h)]

/-- A row goes. -/
theorem LimB.gone {w w' : World} {g mb : Nat} {A : Option Addr} {cc : Nat} {p : Par} {now : Int} {P1 P2 : List Row} {r : Row} (h : LimB w g mb A cc p now (P1 ++ r :: P2))
    (hs : Shy (fun k => k = g ∨ k = mb ∨ blk A = some k) w w') (h1 : Blk w' g 27 #[.int .i64 p.most, .int .i64 p.limit, .int .i64 p.window, .int .i64 p.slip, .int .i64 now, .map (some mb), .slice A (P1.length + P2.length) cc])
    (h2 : MapF Try.prog w' 46 mb (delF (tabR (P1 ++ r :: P2)) (kl r.1.c r.1.n)) (P1.length + P2.length)) (h3 : OwnG isOne w' 0 46 2 A (P1.length + P2.length) cc (cellsR (P1 ++ P2))) : LimB w' g mb A cc p now (P1 ++ P2) := by
  have hgr := fun (r : Row) (hr : r ∈ _) => h.gr hr
  have hmr := fun (r : Row) (hr : r ∈ _) => h.mr hr
  have hrA := fun (r : Row) (hr : r ∈ _) => h.rA hr
  obtain ⟨_, _, _, k4, k5⟩ := h
  obtain ⟨o1, o2, o3, o4, o5, o6, o7⟩ := k5
  have hsub : (P1 ++ P2).Sublist (P1 ++ r :: P2) := (List.Sublist.refl P1).append (List.sublist_cons_self r P2)
  have hlen : (P1 ++ P2).length = P1.length + P2.length := by simp
  refine ⟨by rw [hlen]; exact h1, by rw [hlen]; exact h2.congr fun x => tab_gone o5 o6 x, by rw [hlen]; exact h3, ?_, o1, o2, o3, ?_, fun s hs' => o5 s (hsub.subset hs'), o6.sublist hsub, o7.sublist hsub⟩
  · intro s hs'
    have hm := hsub.subset hs'
    exact (hs.block _ (k4 s hm).lt (fun e => by
        rcases e with e | e | e
        · exact hgr s hm e.symm
        · exact hmr s hm e
        · exact hrA s hm e)).trans (k4 s hm)
  · simp at o4 ⊢; omega
theorem cells_gone {P1 P2 : List Row} {r : Row} : (cellsR (P1 ++ r :: P2)).take (P1.length * 2) ++ (cellsR (P1 ++ r :: P2)).drop ((P1.length + 1) * 2) = cellsR (P1 ++ P2) := by
  have hl : ∀ P : List Row, (cellsR P).length = P.length * 2 := fun P => by induction P with | nil => rfl | cons s P ih => simp [cellsR] at ih ⊢; omega
  have e1 : cellsR (P1 ++ r :: P2) = cellsR P1 ++ ([.int .i64 r.1.c, .string r.1.n] ++ cellsR P2) := by simp [cellsR]
  have e2 : cellsR (P1 ++ P2) = cellsR P1 ++ cellsR P2 := by simp [cellsR]
  rw [e1, e2, ← hl P1, List.take_left]
  congr 1
  rw [show (P1.length + 1) * 2 = (cellsR P1).length + 2 from by rw [hl]; omega, ← List.drop_drop, List.drop_left]
  rfl
theorem cells_key_at {w : World} {A : Option Addr} {cc : Nat} {P : List Row} (h : OwnG isOne w 0 46 2 A P.length cc (cellsR P)) {k : Nat} {r : Row} (hr : P[k]? = some r) :
    ∃ b, A = some ⟨b, 0, none⟩ ∧ w.cell? ⟨b, k * 2, none⟩ = some (.int .i64 r.1.c) ∧ w.cell? ⟨b, k * 2 + 1, none⟩ = some (.string r.1.n) := by
  have hk : k < P.length := (List.getElem?_eq_some_iff.1 hr).1
  obtain ⟨b, hA, _, _⟩ := h.head (by have := h.rd.cap.1; omega)
  obtain ⟨b', o, hA', hlt, hcell⟩ := h.rd.2.2.2 (by omega)
  rw [hA] at hA'
  cases hA'
  have hget : ∀ (P : List Row) (k : Nat) (r : Row), P[k]? = some r → (cellsR P)[k * 2]? = some (.int .i64 r.1.c) ∧ (cellsR P)[k * 2 + 1]? = some (.string r.1.n) := by
    intro P
    induction P with
    | nil => intro k r h; simp at h
    | cons s P ih =>
      intro k r h
      rcases k with _ | k
      · simp at h; subst h; simp [cellsR]
      · have := ih k r (by simpa using h)
        have e : cellsR (s :: P) = .int .i64 s.1.c :: .string s.1.n :: cellsR P := by simp [cellsR]
        rw [e, show (k + 1) * 2 = k * 2 + 2 from by omega, show k * 2 + 2 + 1 = k * 2 + 1 + 2 from by omega]
        simpa using this
  obtain ⟨e1, e2⟩ := hget P k r hr
  refine ⟨b, hA, ?_, ?_⟩
  · have := hcell _ _ e1; simpa using this
  · have := hcell _ _ e2; simpa using this

theorem look_at {w : World} {g mb : Nat} {A : Option Addr} {cc : Nat} {p : Par} {now : Int} {P : List Row} (h : LimB w g mb A cc p now P) {k : Nat} {r : Row} (hr : P[k]? = some r) :
    (Instr.lookup 24 (.map (some mb)) (.agg #[.int .i64 r.1.c, .string r.1.n]) false).run Try.prog w = .ok (.pointer (some ⟨r.2, 0, none⟩)) w := by
  have hk : k < P.length := (List.getElem?_eq_some_iff.1 hr).1
  have hP : P = P.take k ++ r :: P.drop (k + 1) := by
    have e := (List.getElem?_eq_some_iff.1 hr).2
    rw [← e]; simp
  obtain ⟨_, h2, _, _, h5⟩ := h
  have hwf := h5.2.2.2.2.1
  have hd := h5.2.2.2.2.2.1
  have hro := hwf r (List.mem_of_getElem? hr)
  have := h2.look keyed Try.underlying24 (zero_ptr w) (kl_key hro.1) false
  rw [hP] at hwf hd
  have ht := tab_at hwf hd
  rw [← hP] at ht
  rw [ht] at this
  simpa [kv] using this
/-- What room answers where no key more is borne. -/
def RoomR (w w' : World) (e : Ending) (g mb : Nat) (A : Option Addr) (cc : Nat) (p : Par) (now : Int) (P : List Row) : Option Nat → Prop
  | none => e = .returned (.bool false) ∧ Ext w w'
  | some i => e = .returned (.bool true) ∧ ∃ P1 r P2, P = P1 ++ r :: P2 ∧ P1.length = i ∧ LimB w' g mb A cc p now (P1 ++ P2) ∧ Shy (fun k => k = g ∨ k = mb ∨ blk A = some k) w w'
set_option maxHeartbeats 8000000 in
set_option maxRecDepth 100000 in
theorem room_full {w : World} {g mb : Nat} {A : Option Addr} {cc : Nat} {p : Par} {now : Int} {P : List Row} (h : LimB w g mb A cc p now P) (hl : (P.length : Int) = p.most) :
    Calls Try.prog 15 #[.pointer (some ⟨g, 0, none⟩)] w fun e w' => RoomR w w' e g mb A cc p now P (goesK p now P P.length) := by
  obtain ⟨c0, _, _, _, _, c5, c6, cf⟩ := h.cells
  have hln : ∀ nq, (Builtin.len_ #[24] 3 #[.map (some mb)]).run Try.prog (w.drewN nq) = .ok (.int .i64 P.length) (w.drewN nq) := fun nq => (h.2.1.ext (ext_drewN w nq)).len Try.underlying24 3
  have q : decide ((P.length : Int) < p.most) = false := by rw [decide_eq_false_iff_not]; omega
  have pm := h.2.2.2.2.1
  have HL := hid h
  have c9 := h.2.2.1.rd.c_le
  have n9 := h.2.2.1.rd.cap.1
  obtain ⟨R, hR⟩ : ∃ R, R = goesK p now P P.length := ⟨_, rfl⟩
  rw [← hR]
  have HR := hid hR
  have HPM := hid pm
  have HLE := hid hl
  clear h hR pm hl
  go_enter Try.func15, Try.ntmps15
  go_wp2_with fail
  go_quiet (fail)
  go_wp2_with fail
  go_loopw [3, 22] (fun gv iv wr => ∃ k : Nat, k ≤ P.length ∧ gv = .int .i64 (goV (goesK p now P k)) ∧ iv = .int .i64 k ∧ Hid (LimB wr g mb A cc p now P) ∧ Hid (Ext w wr)) (fun _ iv _ => P.length - (intOf iv).toNat)
  case atStart => exact ⟨0, Nat.zero_le _, rfl, rfl, hid (HL.out.ext (ext_drewN _ _)), hid (ext_drewN _ _)⟩
  case round =>
    clear c0 c5 c6 cf
    obtain ⟨k, hk, rfl, rfl, LM, XX⟩ := hrel
    by_cases hlt : k < P.length
    · obtain ⟨r, hr⟩ : ∃ r, P[k]? = some r := ⟨_, List.getElem?_eq_getElem hlt⟩
      obtain ⟨b, hA, a0, a1⟩ := cells_key_at LM.out.2.2.1 hr
      subst hA
      have hrm : r ∈ P := List.mem_of_getElem? hr
      have hro := LM.out.2.2.2.2.2.2.2.2.1 r hrm
      have hrb := hro.2
      have hki : (k : Int) < (P.length : Int) := by omega
      obtain ⟨ov, hov⟩ : ∃ ov, overB p now r.1.b = ov := ⟨_, rfl⟩
      have hst : goesK p now P (k + 1) = if ov = true then (match goesK p now P k with
        | none => some k
        | some j => match P[j]? with
          | none => some j
          | some s => if r.1.b < s.1.b then some k else some j) else goesK p now P k := by
        conv => lhs; unfold goesK
        rw [hr]; simp only; rw [hov]
      have HST := hid hst
      have hrb2 : 0 ≤ r.1.b ∧ r.1.b ≤ 1099511627776 := ⟨hro.2.1, hro.2.2.1⟩
      rcases ov with _ | _
      · have he : goesK p now P (k + 1) = goesK p now P k := by rw [hst]; rfl
        have HE := hid he
        clear hst he
        go_wp2_with fail
        obtain ⟨W, hW⟩ : ∃ W, W = wr.alloc (.cells #[.int .i64 r.1.c, .string r.1.n] 46) := ⟨_, rfl⟩
        have LW : LimB W g mb (some ⟨b, 0, none⟩) cc p now P := by rw [hW]; exact LM.out.ext (ext_alloc _ _)
        have XW : Ext w W := by rw [hW]; exact ext_trans XX.out (ext_alloc _ _)
        have kk : Blk W wr.heap.size 46 #[.int .i64 r.1.c, .string r.1.n] := by rw [hW]; exact Blk.new _ _ _
        rw [← hW]
        obtain ⟨t5, ht5⟩ : ∃ t, t = wr.heap.size := ⟨_, rfl⟩
        rw [← ht5] at kk ⊢
        clear hW ht5 a0 a1
        obtain ⟨d0, d1, df⟩ := kk.two
        obtain ⟨_, _, _, _, _, c5, c6, _⟩ := LW.cells
        have hlk : ∀ nq, (Instr.lookup 24 (.map (some mb)) (.agg #[.int .i64 r.1.c, .string r.1.n]) false).run Try.prog (W.drewN nq) = .ok (.pointer (some ⟨r.2, 0, none⟩)) (W.drewN nq) := fun nq => look_at (LW.ext (ext_drewN W nq)) hr
        have HLW := hid LW
        have HXW := hid XW
        clear LW XW kk
        go_wp2_with fail
        go_quiet (fail)
        generalize hV : W.drewN _ = V
        have eV : Ext W V := by rw [← hV]; exact ext_drewN _ _
        have LV := HLW.out.ext eV
        clear hV d0 d1 df c5 c6 hlk
        obtain ⟨_, _, _, _, _, c5, c6, _⟩ := LV.cells
        have OV : ∀ m, Calls Try.prog 16 #[.pointer (some ⟨g, 0, none⟩), .pointer (some ⟨r.2, 0, none⟩)] (V.drewN m) fun e w' => e = .returned (.bool false) ∧ ∃ n, w' = (V.drewN m).drewN n := fun m => by
          have := over_any (LV.ext (ext_drewN V m)) (((LV.2.2.2.1 r hrm).ext (ext_drewN V m))) hrb2
          rw [hov] at this; exact this
        have HOV := hid OV
        clear OV
        clear hlt hrm hro hrb hr hov
        have HLV := hid LV
        have HXV := hid (ext_trans HXW.out eV)
        clear LV eV
        go_wp2_with fail
        go_quiet ((go_at_call 16; exact Calls.quiet_of (HOV.out _)))
        go_wp2_with fail
        exact ⟨⟨k + 1, by omega, by rw [HE.out], by go_num, hid (HLV.out.ext (ext_drewN _ _)), hid (ext_trans HXV.out (ext_drewN _ _))⟩, by simp [intOf]; omega⟩
      · rcases hg : goesK p now P k with _ | j
        · have he : goesK p now P (k + 1) = some k := by rw [hst, hg]; rfl
          have HE := hid he
          clear hst he
          go_wp2_with fail
          obtain ⟨W, hW⟩ : ∃ W, W = wr.alloc (.cells #[.int .i64 r.1.c, .string r.1.n] 46) := ⟨_, rfl⟩
          have LW : LimB W g mb (some ⟨b, 0, none⟩) cc p now P := by rw [hW]; exact LM.out.ext (ext_alloc _ _)
          have XW : Ext w W := by rw [hW]; exact ext_trans XX.out (ext_alloc _ _)
          have kk : Blk W wr.heap.size 46 #[.int .i64 r.1.c, .string r.1.n] := by rw [hW]; exact Blk.new _ _ _
          rw [← hW]
          obtain ⟨t5, ht5⟩ : ∃ t, t = wr.heap.size := ⟨_, rfl⟩
          rw [← ht5] at kk ⊢
          clear hW ht5 a0 a1
          obtain ⟨d0, d1, df⟩ := kk.two
          obtain ⟨_, _, _, _, _, c5, c6, _⟩ := LW.cells
          have hlk : ∀ nq, (Instr.lookup 24 (.map (some mb)) (.agg #[.int .i64 r.1.c, .string r.1.n]) false).run Try.prog (W.drewN nq) = .ok (.pointer (some ⟨r.2, 0, none⟩)) (W.drewN nq) := fun nq => look_at (LW.ext (ext_drewN W nq)) hr
          have HLW := hid LW
          have HXW := hid XW
          simp only [goV]
          clear LW XW kk
          go_wp2_with fail
          go_quiet (fail)
          generalize hV : W.drewN _ = V
          have eV : Ext W V := by rw [← hV]; exact ext_drewN _ _
          have LV := HLW.out.ext eV
          clear hV d0 d1 df c5 c6 hlk
          obtain ⟨_, _, _, _, _, c5, c6, _⟩ := LV.cells
          have OV : ∀ m, Calls Try.prog 16 #[.pointer (some ⟨g, 0, none⟩), .pointer (some ⟨r.2, 0, none⟩)] (V.drewN m) fun e w' => e = .returned (.bool true) ∧ ∃ n, w' = (V.drewN m).drewN n := fun m => by
            have := over_any (LV.ext (ext_drewN V m)) (((LV.2.2.2.1 r hrm).ext (ext_drewN V m))) hrb2
            rw [hov] at this; exact this
          have HOV := hid OV
          clear OV
          clear hlt hrm hro hrb hr hov
          have HLV := hid LV
          have HXV := hid (ext_trans HXW.out eV)
          clear LV eV
          go_wp2_with fail
          go_quiet ((go_at_call 16; exact Calls.quiet_of (HOV.out _)))
          go_wp2_with fail
          exact ⟨⟨k + 1, by omega, by rw [HE.out]; rfl, by go_num, hid (HLV.out.ext (ext_drewN _ _)), hid (ext_trans HXV.out (ext_drewN _ _))⟩, by simp [intOf]; omega⟩
        · obtain ⟨hjk, s, hs, _⟩ := goes_ok p now P k j hg
          obtain ⟨b', hA', e0, e1⟩ := cells_key_at LM.out.2.2.1 hs
          cases hA'
          have hsm : s ∈ P := List.mem_of_getElem? hs
          have hji : (j : Int) < (P.length : Int) := by omega
          have hj0 : ¬ (j : Int) < 0 := by omega
          have hjd : decide ((j : Int) < 0) = false := by rw [decide_eq_false_iff_not]; omega
          by_cases hbs : r.1.b < s.1.b
          · have he : goesK p now P (k + 1) = some k := by rw [hst, hg]; simp only; rw [hs]; simp [hbs]
            have HE := hid he
            have yb : decide (r.1.b < s.1.b) = true := by rw [decide_eq_true_iff]; exact hbs
            clear hst he
            go_wp2_with fail
            obtain ⟨W, hW⟩ : ∃ W, W = wr.alloc (.cells #[.int .i64 r.1.c, .string r.1.n] 46) := ⟨_, rfl⟩
            have LW : LimB W g mb (some ⟨b, 0, none⟩) cc p now P := by rw [hW]; exact LM.out.ext (ext_alloc _ _)
            have XW : Ext w W := by rw [hW]; exact ext_trans XX.out (ext_alloc _ _)
            have kk : Blk W wr.heap.size 46 #[.int .i64 r.1.c, .string r.1.n] := by rw [hW]; exact Blk.new _ _ _
            rw [← hW]
            obtain ⟨t5, ht5⟩ : ∃ t, t = wr.heap.size := ⟨_, rfl⟩
            rw [← ht5] at kk ⊢
            clear hW ht5 a0 a1
            obtain ⟨d0, d1, df⟩ := kk.two
            obtain ⟨_, _, _, _, _, c5, c6, _⟩ := LW.cells
            have hlk : ∀ nq, (Instr.lookup 24 (.map (some mb)) (.agg #[.int .i64 r.1.c, .string r.1.n]) false).run Try.prog (W.drewN nq) = .ok (.pointer (some ⟨r.2, 0, none⟩)) (W.drewN nq) := fun nq => look_at (LW.ext (ext_drewN W nq)) hr
            have HLW := hid LW
            have HXW := hid XW
            simp only [goV]
            clear LW XW kk
            go_wp2_with fail
            go_quiet (fail)
            generalize hV : W.drewN _ = V
            have eV : Ext W V := by rw [← hV]; exact ext_drewN _ _
            have LV := HLW.out.ext eV
            clear hV d0 d1 df c5 c6 hlk
            obtain ⟨_, _, _, _, _, c5, c6, _⟩ := LV.cells
            have OV : ∀ m, Calls Try.prog 16 #[.pointer (some ⟨g, 0, none⟩), .pointer (some ⟨r.2, 0, none⟩)] (V.drewN m) fun e w' => e = .returned (.bool true) ∧ ∃ n, w' = (V.drewN m).drewN n := fun m => by
              have := over_any (LV.ext (ext_drewN V m)) (((LV.2.2.2.1 r hrm).ext (ext_drewN V m))) hrb2
              rw [hov] at this; exact this
            have HOV := hid OV
            have hlk2 : ∀ nq, (Instr.lookup 24 (.map (some mb)) (.agg #[.int .i64 s.1.c, .string s.1.n]) false).run Try.prog (V.drewN nq) = .ok (.pointer (some ⟨s.2, 0, none⟩)) (V.drewN nq) := fun nq => look_at (LV.ext (ext_drewN V nq)) hs
            obtain ⟨f0, f1, _⟩ := (LV.2.2.2.1 r hrm).two
            obtain ⟨h0, h1, _⟩ := (LV.2.2.2.1 s hsm).two
            obtain ⟨b', hA', e0, e1⟩ := cells_key_at LV.2.2.1 hs
            cases hA'
            clear OV
            clear hlt hrm hro hrb hr hov hs hsm hbs
            have HLV := hid LV
            have HXV := hid (ext_trans HXW.out eV)
            clear LV eV
            go_wp2_with fail
            go_quiet ((go_at_call 16; exact Calls.quiet_of (HOV.out _)))
            go_wp2_with fail
            exact ⟨⟨k + 1, by omega, by rw [HE.out]; rfl, by go_num, hid (HLV.out.ext (ext_drewN _ _)), hid (ext_trans HXV.out (ext_drewN _ _))⟩, by simp [intOf]; omega⟩
          · have he : goesK p now P (k + 1) = some j := by rw [hst, hg]; simp only; rw [hs]; simp [hbs]
            have HE := hid he
            have yb : decide (r.1.b < s.1.b) = false := by rw [decide_eq_false_iff_not]; exact hbs
            clear hst he
            go_wp2_with fail
            obtain ⟨W, hW⟩ : ∃ W, W = wr.alloc (.cells #[.int .i64 r.1.c, .string r.1.n] 46) := ⟨_, rfl⟩
            have LW : LimB W g mb (some ⟨b, 0, none⟩) cc p now P := by rw [hW]; exact LM.out.ext (ext_alloc _ _)
            have XW : Ext w W := by rw [hW]; exact ext_trans XX.out (ext_alloc _ _)
            have kk : Blk W wr.heap.size 46 #[.int .i64 r.1.c, .string r.1.n] := by rw [hW]; exact Blk.new _ _ _
            rw [← hW]
            obtain ⟨t5, ht5⟩ : ∃ t, t = wr.heap.size := ⟨_, rfl⟩
            rw [← ht5] at kk ⊢
            clear hW ht5 a0 a1
            obtain ⟨d0, d1, df⟩ := kk.two
            obtain ⟨_, _, _, _, _, c5, c6, _⟩ := LW.cells
            have hlk : ∀ nq, (Instr.lookup 24 (.map (some mb)) (.agg #[.int .i64 r.1.c, .string r.1.n]) false).run Try.prog (W.drewN nq) = .ok (.pointer (some ⟨r.2, 0, none⟩)) (W.drewN nq) := fun nq => look_at (LW.ext (ext_drewN W nq)) hr
            have HLW := hid LW
            have HXW := hid XW
            simp only [goV]
            clear LW XW kk
            go_wp2_with fail
            go_quiet (fail)
            generalize hV : W.drewN _ = V
            have eV : Ext W V := by rw [← hV]; exact ext_drewN _ _
            have LV := HLW.out.ext eV
            clear hV d0 d1 df c5 c6 hlk
            obtain ⟨_, _, _, _, _, c5, c6, _⟩ := LV.cells
            have OV : ∀ m, Calls Try.prog 16 #[.pointer (some ⟨g, 0, none⟩), .pointer (some ⟨r.2, 0, none⟩)] (V.drewN m) fun e w' => e = .returned (.bool true) ∧ ∃ n, w' = (V.drewN m).drewN n := fun m => by
              have := over_any (LV.ext (ext_drewN V m)) (((LV.2.2.2.1 r hrm).ext (ext_drewN V m))) hrb2
              rw [hov] at this; exact this
            have HOV := hid OV
            have hlk2 : ∀ nq, (Instr.lookup 24 (.map (some mb)) (.agg #[.int .i64 s.1.c, .string s.1.n]) false).run Try.prog (V.drewN nq) = .ok (.pointer (some ⟨s.2, 0, none⟩)) (V.drewN nq) := fun nq => look_at (LV.ext (ext_drewN V nq)) hs
            obtain ⟨f0, f1, _⟩ := (LV.2.2.2.1 r hrm).two
            obtain ⟨h0, h1, _⟩ := (LV.2.2.2.1 s hsm).two
            obtain ⟨b', hA', e0, e1⟩ := cells_key_at LV.2.2.1 hs
            cases hA'
            clear OV
            clear hlt hrm hro hrb hr hov hs hsm hbs
            have HLV := hid LV
            have HXV := hid (ext_trans HXW.out eV)
            clear LV eV
            go_wp2_with fail
            go_quiet ((go_at_call 16; exact Calls.quiet_of (HOV.out _)))
            go_wp2_with fail
            exact ⟨⟨k + 1, by omega, by rw [HE.out]; rfl, by go_num, hid (HLV.out.ext (ext_drewN _ _)), hid (ext_trans HXV.out (ext_drewN _ _))⟩, by simp [intOf]; omega⟩
    · obtain rfl : k = P.length := by omega
      rcases hG : goesK p now P P.length with _ | i
      · simp only [goV]
        go_wp2_with fail
        go_ret
        rw [HR.out, hG]
        exact ⟨rfl, XX.out⟩
      · obtain ⟨hik, r, hr, _⟩ := goes_ok p now P P.length i hG
        obtain ⟨b, hA, a0, a1⟩ := cells_key_at LM.out.2.2.1 hr
        subst hA
        have HG := hid (HR.out.trans hG)
        obtain ⟨P1, P2, hP, hP1⟩ : ∃ P1 P2, P = P1 ++ r :: P2 ∧ P1.length = i := ⟨P.take i, P.drop (i+1), by have e := (List.getElem?_eq_some_iff.1 hr).2; rw [← e]; simp, by simp; omega⟩
        have HP := hid hP
        have HP1 := hid hP1
        have hro := LM.out.2.2.2.2.2.2.2.2.1 r (List.mem_of_getElem? hr)
        obtain ⟨_, _, _, _, _, c5, c6, cf⟩ := LM.out.cells
        obtain ⟨w4, hdel, M4, t4⟩ := (LM.out.2.1.ext (ext_drew wr)).drop (t := 24) keyed Try.underlying24 (kl_key hro.1) 0
        have t4 := t4.grown
        unfold kv at hdel
        have ht : tabR P (kl r.1.c r.1.n) = some (.pointer (some ⟨r.2, 0, none⟩)) := by
          have hwf := LM.out.2.2.2.2.2.2.2.2.1
          have hd := LM.out.2.2.2.2.2.2.2.2.2.1
          rw [hP] at hwf hd ⊢
          exact tab_at hwf hd
        rw [ht] at M4
        simp only [Option.isSome_some, if_true] at M4
        have hgm := LM.out.gm
        have hmA := LM.out.mA
        have hgA := LM.out.gA
        have HM4 := hid M4
        have G4 := (LM.out.1.ext (ext_drew wr)).grown t4 (fun e => hgm (by injection e))
        have ow4 := hid ((LM.out.2.2.1.ext (ext_drew wr)).grown t4 (fun b hb e => hmA (by rw [hb]; exact e)))
        have s4 := hid (show Shy (fun k => k = mb) wr w4 from Shy.trans (Shy.of_ext (ext_drew wr)) (shy_of_grown t4) fun k _ hk => by injection hk with hk; exact hk.symm)
        have d6 := G4.cell 6
        have df := G4.frozen
        have HG4 := hid G4
        have hlen : P.length = i + 1 + P2.length := by rw [hP]; simp; omega
        have HLEN := hid hlen
        have hil : (i : Int) < (P.length : Int) := by omega
        have hi0 : ¬ (i : Int) < 0 := by omega
        have hid0 : decide ((i : Int) < 0) = false := by rw [decide_eq_false_iff_not]; omega
        have hi1 : i + 1 ≤ P.length := by omega
        simp only [goV]
        have HGM := hid hgm
        have HMA := hid hmA
        have HGA := hid hgA
        have HT := hid ht
        clear hlt hG hr hP hP1 hlen hro ht M4 G4 hgm hmA hgA t4
        go_wp2_with fail
        go_region
        clear a0 a1 c5 c6 cf hdel
        go_wp2_with fail
        refine (delete_one ow4.out i P2.length HLEN.out).mono ?_
        rintro e w5 ⟨rfl, o5, g5⟩
        have G5 := HG4.out.grown g5 (fun e => HGA.out (by simpa using e.symm))
        have e6 := G5.cell 6
        have ef := G5.frozen
        clear d6 df
        have HO5 := hid o5
        have HG5 := hid g5
        have HB5 := hid G5
        clear o5 g5 G5
        go_wp2_with fail
        go_ret
        rw [HG.out]
        have hP := HP.out
        have hP1 := HP1.out
        subst hP1
        have hs5 : Shy (fun k => k = g ∨ k = mb ∨ blk (some (⟨b, 0, none⟩ : Addr)) = some k) wr (w5.setCell ⟨g, 6, none⟩ (.slice (some ⟨b, 0, none⟩) (P1.length + P2.length) cc)) :=
          Shy.trans (Shy.trans (s4.out.mono fun k _ h => .inr (.inl h)) (shy_of_grown HG5.out) fun k _ h => .inr (.inr (by simpa using h))) (set_shy g 6 _ w5) fun k _ h => .inl h
        refine ⟨rfl, P1, r, P2, hP, rfl, ?_, ?_⟩
        · have hL := LM.out
          have hM := HM4.out
          have hO := HO5.out
          have hB := HB5.out
          rw [hP] at hL hM hO hB
          refine hL.gone hs5 (by simpa using hB.set_ 6 (.slice (some ⟨b, 0, none⟩) (P1.length + P2.length) cc)) ?_ ?_
          · have e9 : (P1 ++ r :: P2).length - 1 = P1.length + P2.length := by simp
            rw [e9] at hM
            exact (hM.kept HG5.out (fun e => HMA.out (by simpa using e.symm))).setCell (by simpa using fun e => HGM.out e.symm) _
          · rw [cells_gone] at hO
            exact (set_shy g 6 _ w5).ownG hO (fun k hk e => by subst e; exact HGA.out hk)
        · exact Shy.trans (Shy.of_ext XX.out) hs5 fun _ _ h => h
end Go.Proofs.Ytnoepnbgnlolbaa

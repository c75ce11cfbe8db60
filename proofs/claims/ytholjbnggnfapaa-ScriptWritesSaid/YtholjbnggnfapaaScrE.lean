/- Layer 29: lists of events in memory. -/
import Derived.Test.YtholjbnggnfapaaScrD
import Derived.Test.YtholjbnggnfapaaScrQ
namespace Go.Proofs.Ytholjbnggnfapaa
open Go.BK Go.BK.SC Go.RowKit Go.Maps
set_option linter.unusedVariables false
/-- An event, and where its bytes stand. -/
structure Em where
  e : Ev
  B : Option Addr
  d : Nat
def isOne (v : Value) : Prop := v.oneCell' = true
def cellsL (M : List Em) : List Value := M.flatMap fun m => (cellsE m.e m.B m.d).toList
theorem cellsL_len (M : List Em) : (cellsL M).length = M.length * 7 := by
  induction M with
  | nil => rfl
  | cons m M ih =>
    have : cellsL (m :: M) = (cellsE m.e m.B m.d).toList ++ cellsL M := by simp [cellsL]
    rw [this, List.length_append, ih]
    simp [cellsE]
    omega
theorem cellsL_append (M N : List Em) : cellsL (M ++ N) = cellsL M ++ cellsL N := by simp [cellsL]
theorem cellsL_one (M : List Em) : ∀ u ∈ cellsL M, isOne u := by
  intro u hu
  unfold cellsL at hu
  rw [List.mem_flatMap] at hu
  obtain ⟨r, _, hu⟩ := hu
  simp [cellsE] at hu
  rcases hu with rfl | rfl | rfl | rfl | rfl | rfl | rfl <;> rfl
/-- Events in memory of the call's own, from base on. -/
def EvL (w : World) (base : Nat) (A : Option Addr) (c : Nat) (M : List Em) : Prop :=
  OwnG isOne w base 34 7 A M.length c (cellsL M) ∧ (∀ m ∈ M, Own w base 5 m.B m.d m.e.b) ∧
    M.Pairwise (fun m m' => ∀ k, blk m.B = some k → blk m'.B ≠ some k) ∧ ∀ m ∈ M, ∀ k, blk m.B = some k → blk A ≠ some k
theorem EvL.nil (w : World) (base : Nat) : EvL w base none 0 [] := ⟨OwnG.nil _ _ _ _ _, by simp, List.Pairwise.nil, by simp⟩
theorem EvL.mono {w : World} {base base' : Nat} {A : Option Addr} {c : Nat} {M : List Em} (h : EvL w base A c M) (hb : base' ≤ base) : EvL w base' A c M :=
  ⟨h.1.mono hb, fun m hm => OwnG.mono (h.2.1 m hm) hb, h.2.2⟩
theorem EvL.shy {U : Nat → Prop} {w w' : World} {base : Nat} {A : Option Addr} {c : Nat} {M : List Em} (h : EvL w base A c M) (s : Shy U w w') (hU : ∀ k, base ≤ k → k < w.heap.size → ¬ U k) : EvL w' base A c M :=
  ⟨s.ownG h.1 (fun k hk => hU k (h.1.lt k hk).1 (h.1.lt k hk).2), fun m hm => s.ownG (h.2.1 m hm) (fun k hk => hU k (OwnG.lt (h.2.1 m hm) k hk).1 (OwnG.lt (h.2.1 m hm) k hk).2), h.2.2⟩
theorem EvL.ext {w w' : World} {base : Nat} {A : Option Addr} {c : Nat} {M : List Em} (h : EvL w base A c M) (x : Ext w w') : EvL w' base A c M := h.shy (U := fun _ => False) (Shy.of_ext x) (fun _ _ _ => id)
theorem EvL.add {U : Nat → Prop} {w w4 wa w6 : World} {base : Nat} {A A6 B : Option Addr} {c c6 d : Nat} {M : List Em} {e : Ev} (h : EvL w base A c M) (s : Shy U w w4) (hU : ∀ k, base ≤ k → k < w.heap.size → ¬ U k) (hb : base ≤ w.heap.size)
    (o : Own w4 w.heap.size 5 B d e.b) (x : Ext w4 wa) (g : wa.grownBy w6 (blk A)) (n6 : A6 = A ∨ A6 = some ⟨wa.heap.size, 0, none⟩)
    (o6 : OwnG isOne w6 base 34 7 A6 (M.length + 1) c6 (cellsL M ++ (cellsE e B d).toList)) : EvL w6 base A6 c6 (M ++ [⟨e, B, d⟩]) := by
  have h4 := h.shy s hU
  have ha := h4.ext x
  have hs := s.size
  have hx := x.size
  refine ⟨?_, ?_, ?_, ?_⟩
  · rw [List.length_append, cellsL_append]
    simpa [cellsL] using o6
  · intro m hm
    rw [List.mem_append, List.mem_singleton] at hm
    rcases hm with hm | rfl
    · exact (ha.2.1 m hm).grown g (fun k hk e => h.2.2.2 m hm k hk e.symm)
    · refine OwnG.mono (OwnG.grown (OwnG.ext o x) g (fun k hk e => ?_)) hb
      have := (OwnG.lt o k hk).1
      have := (h.1.lt k e.symm).2
      omega
  · rw [List.pairwise_append]
    refine ⟨h.2.2.1, List.pairwise_singleton _ _, fun m hm m' hm' k hk hk' => ?_⟩
    rw [List.mem_singleton] at hm'
    subst hm'
    have := (OwnG.lt (h.2.1 m hm) k hk).2
    have := (OwnG.lt o k hk').1
    omega
  · intro m hm k hk e6
    rw [List.mem_append, List.mem_singleton] at hm
    rcases hm with hm | rfl
    · rcases n6 with rfl | rfl
      · exact h.2.2.2 m hm k hk e6
      · have := (OwnG.lt (h.2.1 m hm) k hk).2
        injection e6 with e6
        dsimp only at e6
        omega
    · have h1 := OwnG.lt o k hk
      rcases n6 with rfl | rfl
      · have := (h.1.lt k e6).2
        omega
      · injection e6 with e6
        dsimp only at e6
        omega
theorem info_ev : (Try.prog.info? 34).map (fun i => (i.zero, i.size, i.bytes)) = some (some (.agg #[.int .i64 0, .int .i64 0, .int .i64 0, .int .i64 0, .int .i64 0, .int .i64 0, .slice none 0 0]), 7, 72) := by kernel_rfl
theorem rd_seven (w : World) (e : Ev) (B : Option Addr) (d : Nat) (t : TypeId) : RdG (w.alloc (.cells (cellsE e B d) t)) 7 (some ⟨w.heap.size, 0, none⟩) 1 1 (cellsE e B d).toList := by
  have := OwnG.new (ok := fun _ => True) (base := 0) (size := 7) (e := t) w (cellsE e B d).toList 1 1 (Nat.zero_le _) rfl (Nat.le_refl _) (by simp [maxLen]) (fun _ _ => trivial)
  exact this.rd
/-- What Events tells. -/
def EvsD (w w' : World) (l : List UInt8) (e : Ending) : Prop := ∃ A c M, e = .returned (.slice A M.length c) ∧ EvL w' w.heap.size A c M ∧ M.map Em.e = eventsS 4096 l ∧ Ext w w'
def EvsRel (w0 : World) (ra rb : Nat) (A : Option Addr) (c : Nat) (b : List UInt8) (base : Nat) (all : List Ev) (ov : Value) (wr : World) : Prop :=
  ∃ A' c' M l, ov = .slice A' M.length c' ∧ M.length ≤ 4096 ∧ EvL wr base A' c' M ∧ M.map Em.e ++ eventsS (4096 - M.length) l = all ∧ RL wr ra rb A c b l ∧ Shy (fun k => k = ra) w0 wr
section
variable {w w' : World} {c : Nat} {A : Option Addr} {b : List UInt8}
theorem zero_seven : ∀ u ∈ (Value.agg #[.int .i64 0, .int .i64 0, .int .i64 0, .int .i64 0, .int .i64 0, .int .i64 0, .slice none 0 0]).cells.toList, isOne u := by
  intro u hu
  simp [Value.cells] at hu
  rcases hu with rfl | rfl <;> exact rfl
theorem ev_one (e : Ev) (B : Option Addr) (d : Nat) : ∀ u ∈ (cellsE e B d).toList, isOne u := fun u hu => cellsL_one [⟨e, B, d⟩] u (by simpa [cellsL] using hu)
set_option maxHeartbeats 2000000 in
set_option maxRecDepth 100000 in
theorem events_in (h : Rd w A c b) : Calls Try.prog 10 #[.slice A b.length c] w fun e w' => EvsD w w' b e := by
  have C0 := hid (reader_in h)
  have H := hid h
  obtain ⟨i0, hi, hz0, hz1, hz2⟩ := info_parts info_ev
  clear h
  go_enter Try.func10, Try.ntmps10
  go_wp2_with fail
  refine C0.out.mono ?_
  rintro e w1 ⟨rfl, r1, x1⟩
  obtain ⟨ra, hra⟩ : ∃ ra, w.heap.size + 1 = ra := ⟨_, rfl⟩
  obtain ⟨rb, hrb⟩ : ∃ rb, w.heap.size = rb := ⟨_, rfl⟩
  rw [hra] at r1 ⊢
  have R1 := hid r1
  have X1 := hid x1
  have HRA := hid hra
  have START : Hid (EvsRel w1 ra w.heap.size A c b w1.heap.size (eventsS 4096 b) (.slice none 0 0) w1) := hid ⟨none, 0, [], b, rfl, Nat.zero_le _, EvL.nil _ _, rfl, ⟨0, R1.out, by simp⟩, Shy.refl _⟩
  unfold nxF lfF
  clear r1 x1 hra hrb
  go_wp2_with fail
  go_loopw [5] (fun ov wr => EvsRel w1 ra w.heap.size A c b w1.heap.size (eventsS 4096 b) ov wr) (fun ov _ => 4096 - (match ov with | .slice _ n _ => n | _ => 0))
  case atStart => exact START.out
  case round =>
    obtain ⟨A', c', M, l, rfl, hM, hL, hall, hr, hs⟩ := hrel
    have hx1 := X1.out.size
    by_cases hl : l = []
    · have CL := left_l hr
      subst hl
      rw [decide_eq_false (by simp)] at CL
      have CL := hid CL
      have HL := hid hL
      have HALL := hid hall
      have HS := hid hs
      clear hL hall hs hr
      go_wp2_with fail
      refine CL.out.mono ?_
      rintro e _ ⟨rfl, rfl⟩
      go_wp2_with fail
      go_ret
      have e0 : ∀ n, eventsS n [] = [] := fun n => by cases n <;> rfl
      refine ⟨A', c', M, rfl, HL.out.mono (by omega), ?_, ?_⟩
      · rw [← HALL.out, e0, List.append_nil]
      · exact Below.trans X1.out (HS.out.below hx1 (fun k hk e => by have := HRA.out; omega))
    · have CL := left_l hr
      rw [decide_eq_true hl] at CL
      have CL := hid CL
      by_cases hfull : M.length = 4096
      · have HL := hid hL
        have HALL := hid hall
        have HS := hid hs
        have HF := hid hfull
        rw [hfull]
        have i1 : ¬ ((4096 : Nat) : Int) < 4096 := by omega
        clear hL hall hs hr
        go_wp2_with fail
        refine CL.out.mono ?_
        rintro e _ ⟨rfl, rfl⟩
        go_wp2_with fail
        go_ret
        refine ⟨A', c', M, (by simp [HF.out]), HL.out.mono (by omega), ?_, ?_⟩
        · rw [← HALL.out, HF.out]
          simp [eventsS]
        · exact Below.trans X1.out (HS.out.below hx1 (fun k hk e => by have := HRA.out; omega))
      · have CE := hid (event_in hr)
        have i1 : ((M.length : Nat) : Int) < 4096 := by omega
        obtain ⟨n, hn⟩ : ∃ n, M.length = n := ⟨_, rfl⟩
        have HL := hid hL
        have HALL := hid hall
        have HS := hid hs
        have HN := hid hn
        have HNE := hid hl
        have hn6 : n ≤ 4095 := by omega
        rw [hn] at i1 ⊢
        have OL := HL.out.1
        rw [hn] at OL
        have hz1s := HS.out.size
        have hra1 : ra < w1.heap.size := R1.out.at_.lt
        clear hL hall hs hr hl hn hM hfull
        go_wp2_with fail
        refine CL.out.mono ?_
        rintro e _ ⟨rfl, rfl⟩
        go_wp2_with fail
        refine CE.out.mono ?_
        rintro e w4 ⟨B, d, rfl, o4, r4, s4⟩
        obtain ⟨ev, hev⟩ : ∃ ev, (evS l).1 = ev := ⟨_, rfl⟩
        rw [hev] at o4 ⊢
        have HEV := hid hev
        clear hev
        obtain ⟨evc, hevc⟩ : ∃ evc, cellsE ev B d = evc := ⟨_, rfl⟩
        have hE7 : evc.toList.length = 7 := by rw [← hevc]; rfl
        have O4 := hid o4
        have R4 := hid r4
        have S4 := hid s4
        have xa := ext_alloc w4 (.cells (cellsE ev B d) 34)
        have src := rd_seven w4 ev B d 34
        have hz4 := s4.size
        obtain ⟨wa, hwa⟩ : ∃ wa, w4.alloc (.cells (cellsE ev B d) 34) = wa := ⟨_, rfl⟩
        obtain ⟨fb, hfb⟩ : ∃ fb, w4.heap.size = fb := ⟨_, rfl⟩
        rw [hwa] at xa src
        rw [hfb] at src hz4
        have XA := hid xa
        have dst := hid ((s4.ownG OL (fun k hk e => by have := (OL.lt k hk).1; have := HRA.out; omega)).ext xa)
        have hza : fb < wa.heap.size := by rw [← hwa, ← hfb]; simp
        have src := hid src
        unfold cellsE at hwa ⊢
        clear o4 r4 s4 xa OL hevc hE7
        go_wp2_with (at_builtin; go_must (refine wpList_append_g (ok := isOne) rfl (.tmp 18) (.tmp 21) 24 rfl w1.heap.size 34 i0 (.agg #[.int .i64 0, .int .i64 0, .int .i64 0, .int .i64 0, .int .i64 0, .int .i64 0, .slice none 0 0]) 7 72 Try.underlying24 hi hz0 hz1 hz2 rfl (by decide) zero_seven (fun _ h => h) rfl dst.out rfl src.out (ev_one ev B d) (by omega) (by unfold maxLen; omega) (by omega) ?_; intro A6 c6 w6 o6 g6 n6; have O6 := hid o6; have G6 := hid g6; have N6 := hid n6; clear o6 g6 n6))
        go_roundw
        case rel =>
          have hadd := EvL.add (e := ev) (d := d) (B := B) (c6 := c6) HL.out S4.out (fun k h1 h2 e => by have := HRA.out; omega) hz1s (by rw [← HEV.out]; rw [HEV.out]; exact O4.out) XA.out G6.out N6.out (by rw [HN.out]; exact O6.out)
          refine ⟨A6, c6, M ++ [⟨ev, B, d⟩], (evS l).2, (by simp [HN.out]), (by simp [HN.out]; omega), hadd, ?_, ?_, ?_⟩
          · rw [← HALL.out, HN.out]
            have e1 : 4096 - n = (4095 - n) + 1 := by omega
            rw [e1, events_cons _ _ HNE.out, HEV.out]
            simp [HN.out, show 4096 - (n + 1) = 4095 - n from by omega]
          · have hA' : ∀ k, blk A' = some k → w1.heap.size ≤ k := fun k hk => (HL.out.1.lt k hk).1
            refine (R4.out.ext XA.out).shy (shy_of_grown G6.out) (fun e => by have := hA' _ e; omega) (fun e => by have := hA' _ e; have := HRA.out; omega) (fun h0 k hk e => ?_)
            have h1 := hA' k e
            obtain ⟨b', hb1, hb2⟩ := RdG.lt H.out h0
            rw [hk] at hb1
            injection hb1 with hb1
            omega
          · refine Shy.grown ((HS.out.trans S4.out (fun k _ e => e)).ext XA.out) G6.out (fun k hk hlt => ?_)
            have := (HL.out.1.lt k hk).1
            omega
        case measure => simp; omega
end
end Go.Proofs.Ytholjbnggnfapaa

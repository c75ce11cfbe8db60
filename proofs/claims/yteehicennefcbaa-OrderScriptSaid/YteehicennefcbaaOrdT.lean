/- The document's window in memory: Done, where the number is open. -/
import Derived.Test.YteehicennefcbaaOrdS
import Derived.Deep.RegionLaw
namespace Go.Proofs.Yteehicennefcbaa
open Go.BK Go.RowKit
set_option linter.unusedVariables false

theorem RefB.mono {V V' : Nat → Prop} {w : World} {v most least c : Nat} {A : Option Addr} {X : List Slot} (h : RefB V w v most least A c X) (hV : ∀ k, V k → V' k) (hl : ∀ k, V' k → k < w.heap.size) : RefB V' w v most least A c X :=
  ⟨h.m1, h.m64, h.l1, hV _ h.uv, hl, h.blk, h.rd, fun h0 => by obtain ⟨b, o, e, h1, h2⟩ := h.arr h0; exact ⟨b, o, e, hV _ h1, h2⟩, fun x hx => ⟨(h.slots x hx).1, fun k hk => ⟨hV _ ((h.slots x hx).2 k hk).1, ((h.slots x hx).2 k hk).2⟩⟩⟩
theorem slot_tail (b' o' n c' : Nat) (h : n + 1 ≤ c') (hm : c' ≤ maxLen) : ∃ A9, (0 < n → A9 = (some (⟨b', o', none⟩ : Addr)).map (·.add 2)) ∧ ∀ w : World, (Instr.slice 47 (.slice (some ⟨b', o', none⟩) (n + 1) c') (some (.int .i64 1)) none none).run Try.prog w = .ok (.slice A9 n (c' - 1)) w := by
  have a1 : (1 : Int) ≤ (n : Int) + 1 := by omega
  have a2 : ¬ (n : Int) + 1 < 1 := by omega
  have a3 : (n : Int) + 1 ≤ c' := by omega
  have a4 : ¬ (c' : Int) < 1 := by omega
  by_cases hcp : c' = 1
  · subst hcp
    have hn : n = 0 := by omega
    subst hn
    refine ⟨some ⟨b', o', none⟩, by omega, fun w => ?_⟩
    go_simp
  · refine ⟨some ⟨b', o' + 2, none⟩, fun _ => by simp [Addr.add], fun w => ?_⟩
    go_simp
theorem pass3 {G : Prop} {P : Option Addr → Nat → World → Prop} (H : Option Addr → Nat → World → Prop) (key : ∀ a b c, H a b c → P a b c) (main : (∀ a b c, H a b c → P a b c) → G) : G := main key

def RefPost (V : Nat → Prop) (w : World) (v most least i : Nat) (l : List UInt8) (X : List Slot) (e : Ending) (w' : World) : Prop :=
  ∃ (A1 : Option Addr) (c1 : Nat) (O : List (Option Addr × Nat × List UInt8)) (Y : List Slot) (A2 : Option Addr) (c2 : Nat) (A' : Option Addr) (c' : Nat), X.set i (some (A1, c1, l)) = O.map some ++ Y ∧ (∀ y, Y[0]? ≠ some (some y)) ∧ e = .returned (.tuple #[.slice A2 O.length c2, .int .i64 0]) ∧
    OwnG isSl w' w.heap.size 22 1 A2 O.length c2 (O.map sv) ∧ RefB (More V w w') w' v most (least + O.length) A' c' Y ∧ (∀ x ∈ O, Rd w' x.1 x.2.1 x.2.2) ∧ Shy V w w'

section
variable {V : Nat → Prop} {w w' : World} {v most least c : Nat} {A : Option Addr} {X : List Slot}
set_option maxRecDepth 100000 in
set_option maxHeartbeats 2000000 in
theorem ref_done_ok {cb i : Nat} {B : Option Addr} {l : List UInt8} (h : RefB V w v most least A c X) (hb : (least : Int) + X.length ≤ 1000000) (hx : X[i]? = some none) (hB : Rd w B cb l) (hl : l.length ≤ 140737488355328) :
    Calls Try.prog 20 #[.pointer (some ⟨v, 0, none⟩), .int .i64 ((least : Int) + i), .slice B l.length cb] w (RefPost V w v most least i l X) := by
  obtain ⟨r1, r2⟩ := h.blk.rules
  have q1 := r1 1
  have q2 := r1 2
  simp only [List.getElem?_toArray, List.getElem?_cons_zero, List.getElem?_cons_succ] at q1 q2
  have hi : i < X.length := (List.getElem?_eq_some_iff.1 hx).1
  obtain ⟨b, o, rfl, hV, hne, g1, g2⟩ := h.at_ hx
  have hd : decide ((least : Int) + i < (least : Int)) = false := by rw [decide_eq_false_iff_not]; omega
  have hw : (least : Int) + i - least = i := by omega
  have hd2 : decide (X.length ≤ i) = false := by rw [decide_eq_false_iff_not]; omega
  have hc1 := h.rd.cap
  have hblt := h.lt b hV
  obtain ⟨i0, hi0, hz0, hz1, hz2⟩ := info_parts info_u8
  rw [Option.isSome_none] at g1
  have hfb : ∀ j, w.frozen? ⟨b, j, none⟩ = false := fun j => by
    obtain ⟨b', o', hA, _, _, hf⟩ := h.arr (by omega)
    cases hA; exact hf j
  have H := hid h
  have HX := hid hx
  have hvlt := h.blk.lt
  have HB := hid hB
  have HI := hid hi0
  clear r1 h hx hB hi0
  go_enter Try.func20, Try.ntmps20
  go_wp2_with fail
  go_quiet (fail)
  have e0 := ext_drewN w nq
  generalize hw0 : w.drewN nq = w0 at e0 ⊢
  have H0 := H.out.ext e0
  have q1' : w0.cell? ⟨v, 1, none⟩ = some (.int .i64 least) := H0.blk.cell 1
  have q2' : w0.cell? ⟨v, 2, none⟩ = some (.slice (some ⟨b, o, none⟩) X.length c) := H0.blk.cell 2
  have g1' : w0.cell? ⟨b, o + i * 2, none⟩ = some (.bool false) := by rw [← hw0]; exact g1
  have E0 := hid e0
  clear hw0 e0 q1 q2 r2 g1 g2 hfb H0
  go_wp2_with fail
  go_quiet (fail)
  have e0 := ext_trans E0.out (ext_drewN w0 nq)
  generalize w0.drewN nq = w1 at e0 ⊢
  clear E0 q1' q2' g1' 
  have H0 := H.out.ext e0
  have q1' : w1.cell? ⟨v, 1, none⟩ = some (.int .i64 least) := H0.blk.cell 1
  have q2' : w1.cell? ⟨v, 2, none⟩ = some (.slice (some ⟨b, o, none⟩) X.length c) := H0.blk.cell 2
  have f2' : ∀ j, w1.frozen? ⟨v, j, none⟩ = false := H0.blk.frozen
  have e1 := ext_alloc w1 (.cells #[] 5)
  have p1 : (w1.alloc (.cells #[] 5)).cell? ⟨v, 1, none⟩ = some (.int .i64 least) := (H0.ext e1).blk.cell 1
  have p2 : (w1.alloc (.cells #[] 5)).cell? ⟨v, 2, none⟩ = some (.slice (some ⟨b, o, none⟩) X.length c) := (H0.ext e1).blk.cell 2
  have hown := OwnG.new (ok := isU8) (base := w1.heap.size) (size := 1) (e := 5) w1 [] 0 0 (Nat.le_refl _) rfl (Nat.le_refl _) (by simp [maxLen]) (by simp)
  have hrd : Rd (w1.alloc (.cells #[] 5)) B cb l := (HB.out.ext e0).ext e1
  have HE0 := hid e0
  have MM := hid (fun (w2 : World) (e : Ext w1 w2) => show w2.cell? ⟨b, o + i * 2, none⟩ = some (.bool false) from by
    obtain ⟨b', o', hA, _, _, k1, k2⟩ := (H0.ext e).at_ HX.out
    cases hA; exact k1)
  have MM2 := hid (fun (w2 : World) (e : Ext w1 w2) => show w2.cell? ⟨b, o + i * 2 + 1, none⟩ = some (.slice none 0 0) from by
    obtain ⟨b', o', hA, _, _, k1, k2⟩ := (H0.ext e).at_ HX.out
    cases hA; exact k2)
  have MF := hid (fun (w2 : World) (e : Ext w1 w2) => show ∀ j, w2.frozen? ⟨b, j, none⟩ = false from fun j => by
    obtain ⟨b', o', hA, _, _, hf⟩ := (H0.ext e).arr (by omega)
    cases hA; exact hf j)
  have HH0 := hid H0
  have HW := hid hown
  have HR := hid hrd
  clear e0 H0 hown hrd e1
  go_wp2_with fail
  have hwr : IntKind.i64.wrap (i : Int) = i := IntWalk.i64_in _ (by omega)
  have hi2 : (0 : Int) ≤ (i : Int) := by omega
  apply pass3 (fun A1 c1 w2 => Own w2 w1.heap.size 5 A1 c1 l ∧ Ext w1 w2)
  case main =>
    intro key
    go_region_law ((refine step_append_g rfl (.tmp 52) (.tmp 53) 22 rfl w1.heap.size 5 i0 (.int .u8 0) 1 1 Try.underlying22 HI.out hz0 hz1 hz2 rfl (by decide) (by simp [Value.cells]; exact ⟨0, rfl⟩) (fun _ h => h.one) rfl (HW.out.ext (ext_drew _)) rfl (HR.out.ext (ext_drew _)) (isU8_map l) (by omega) (by have := HR.out.n_le; unfold maxLen; omega) (by simp) ?_; intro A1 c1 w2 o1 g1 n1; simp only [Nat.zero_add, Nat.zero_mul, List.take_nil, List.nil_append] at o1; have e2 : Ext w1 w2 := below_of_grown (ext_trans (ext_alloc w1 (.cells #[] 5)) (ext_drew _)) (by simp) g1 (fun g h => by simp at h; omega); have H2 := HH0.out.ext e2; have m1 : w2.cell? ⟨b, o + i * 2, none⟩ = some (.bool false) := MM.out w2 e2; have m2 : w2.cell? ⟨b, o + i * 2 + 1, none⟩ = some (.slice none 0 0) := MM2.out w2 e2; have mf : ∀ j, w2.frozen? ⟨b, j, none⟩ = false := MF.out w2 e2; have c1' : w2.cell? ⟨v, 1, none⟩ = some (.int .i64 least) := H2.blk.cell 1; have c2' : w2.cell? ⟨v, 2, none⟩ = some (.slice (some ⟨b, o, none⟩) X.length c) := H2.blk.cell 2; clear H2))
    all_goals exact key _ _ _ ⟨o1, e2⟩
  case key =>
    rintro A1 c1 w2 ⟨o1, e2⟩
    obtain ⟨w3, hw3⟩ : ∃ w3, w3 = (w2.setCell ⟨b, o + i * 2, none⟩ (.bool true)).setCell ⟨b, o + i * 2 + 1, none⟩ (.slice A1 l.length c1) := ⟨_, rfl⟩
    obtain ⟨R3, s3, rd3⟩ := HH0.out.put HX.out e2 o1 w3 hw3
    rw [← hw3]
    have hsz1 := HE0.out.size
    have s4 : Shy V w w3 := (Shy.of_ext HE0.out).trans s3 (fun k _ h => h)
    have R4 : RefB (More V w w3) w3 v most least (some ⟨b, o, none⟩) c (X.set i (some (A1, c1, l))) := R3.mono (fun k hk => hk.imp id fun h => ⟨Nat.le_trans hsz1 h.1, h.2⟩) (fun k hk => hk.elim (fun h => Nat.lt_of_lt_of_le (H.out.lt k h) s4.size) (·.2))
    obtain ⟨X1, hX1⟩ : ∃ X1, X1 = X.set i (some (A1, c1, l)) := ⟨_, rfl⟩
    rw [← hX1] at R4 rd3
    have hlen : X1.length = X.length := by rw [hX1, List.length_set]
    have HR4 := hid R4
    have HX1 := hid hX1
    have HL := hid hlen
    have HS := hid s4
    have hxs := hid R4.slots
    clear q1' q2' f2' p1 p2 MM MM2 MF HW HR o1 e2 hw3 R3 s3 rd3 hd hw hd2 R4 hX1 hlen s4 hwr hi2
    obtain ⟨i1, hi1, hy0, hy1, hy2⟩ := info_parts info_sl
    have HI1 := hid hi1
    clear hi1
    go_wp2_with fail
    go_loopw [8] (fun ov wr => ∃ (O : List (Option Addr × Nat × List UInt8)) (Y : List Slot) (A' : Option Addr) (c' : Nat), X1 = O.map some ++ Y ∧ (∃ A2 c2, ov = .slice A2 O.length c2 ∧ OwnG isSl wr w3.heap.size 22 1 A2 O.length c2 (O.map sv)) ∧
        RefB (More V w w3) wr v most (least + O.length) A' c' Y ∧ (∀ x ∈ O, Rd wr x.1 x.2.1 x.2.2 ∧ ∀ k, blk x.1 = some k → More V w w3 k ∧ k ≠ v) ∧ Shy V w wr ∧ w3.heap.size ≤ wr.heap.size)
      (fun ov _ => X1.length - (match ov with | .slice _ n _ => n | _ => 0))
    case atStart => exact ⟨[], X1, _, _, rfl, ⟨none, 0, rfl, .inl ⟨rfl, rfl, rfl, rfl⟩⟩, HR4.out, by simp, HS.out, Nat.le_refl _⟩
    case round =>
      obtain ⟨O, Y, A', c', hXY, ⟨A2, c2, rfl, oo⟩, RB, hO, sh, hsz⟩ := hrel
      have hYl : O.length + Y.length = X.length := by rw [← HL.out, hXY]; simp
      obtain ⟨r1, r2⟩ := RB.blk.rules
      have q1 := r1 1
      have q2 := r1 2
      simp only [List.getElem?_toArray, List.getElem?_cons_zero, List.getElem?_cons_succ] at q1 q2
      have RBh := hid RB
      have HXY := hid hXY
      have HO := hid hO
      have Hoo := hid oo
      have done : (∀ y, Y[0]? ≠ some (some y)) → RefPost V w v most least i l X (.returned (.tuple #[.slice A2 O.length c2, .int .i64 0])) wr := fun hy => by
        have hmono : ∀ k, More V w w3 k → More V w wr k := fun k hk => hk.imp id fun h => ⟨h.1, Nat.lt_of_lt_of_le h.2 hsz⟩
        exact ⟨A1, c1, O, Y, A2, c2, A', c', HX1.out.symm.trans HXY.out, hy, rfl, oo.mono HS.out.size, RBh.out.mono hmono (fun k hk => hk.elim (fun h => Nat.lt_of_lt_of_le (H.out.lt k h) sh.size) (·.2)), fun x hx => (HO.out x hx).1, sh⟩
      have HD := hid done
      clear done hXY hO r1
      cases Y with
      | nil =>
        clear RB oo
        simp only [List.length_nil] at q2 hYl
        go_wp2_with fail
        go_ret2
        exact HD.out (by simp)
      | cons y Y =>
        obtain ⟨b', o', rfl, hV', hne', k1, k2⟩ := RB.at_ (i := 0) (s := y) rfl
        simp only [Nat.zero_mul, Nat.add_zero] at k1 k2
        simp only [List.length_cons] at q2 hYl
        have hcap := RB.rd.cap
        simp only [List.length_cons] at hcap
        have h0 : decide ((0 : Int) < ((Y.length + 1 : Nat) : Int)) = true := by rw [decide_eq_true_iff]; omega
        cases y with
        | none =>
          rw [Option.isSome_none] at k1
          clear RB oo k2
          go_wp2_with fail
          go_ret2
          exact HD.out (by simp)
        | some x =>
          obtain ⟨xa, xc, xl⟩ := x
          rw [Option.isSome_some] at k1
          rw [show slotV (some (xa, xc, xl)) = .slice xa xl.length xc from rfl] at k2
          have hsl : isSl (.slice xa xl.length xc) := ⟨_, _, _, rfl⟩
          have h24 : (O.length + 1) * 24 ≤ 140737488355328 := by omega
          have hmx : O.length + 1 ≤ maxLen := by unfold maxLen; omega
          have ES : isSl (.slice none 0 0) := ⟨none, 0, 0, rfl⟩
          obtain ⟨A9, hA9, hs8⟩ := slot_tail b' o' Y.length c' hcap.1 hcap.2
          have hAb : ∀ k, blk A2 = some k → ¬ More V w w3 k := fun k hk hm => by
            have h1 := (oo.lt k hk).1
            rcases hm with hm | hm
            · have := H.out.lt k hm
              have := HS.out.size
              omega
            · omega
          have HAb := hid hAb
          have HA9 := hid hA9
          have HYl := hid hYl
          have hvr : v < wr.heap.size := RB.blk.lt
          have Hsh := hid sh
          have key4 := hid (fun (w4 : World) (g4 : wr.grownBy w4 (blk A2)) => show RefB (More V w w3) w4 v most (least + O.length) (some ⟨b', o', none⟩) c' (some (xa, xc, xl) :: Y) from
            RBh.out.keep (fun k hk => g4.block k (RBh.out.lt k hk) (fun e => HAb.out k e.symm hk)) g4.size)
          clear hAb hA9 hYl RB h0 hcap sh
          go_wp2_with (at_builtin; go_must (refine wpList_append_1 rfl (.tmp 72) (.tmp 80) 31 rfl w3.heap.size 22 i1 (.slice none 0 0) 24 Try.underlying31 HI1.out hy0 hy1 hy2 rfl ES (fun _ h => h.one) rfl oo (.slice xa xl.length xc) (by rfl) hsl h24 hmx hsz ?_; intro A3 c3 w4 o4 g4 x4; have RB4 := hid (key4.out w4 g4); have p2 : w4.cell? ⟨v, 2, none⟩ = some (.slice (some ⟨b', o', none⟩) (Y.length + 1) c') := RB4.out.blk.cell 2; have p1 : w4.cell? ⟨v, 1, none⟩ = some (.int .i64 ((least : Int) + O.length)) := (RB4.out.blk.cell 1).trans (by simp); have pf := RB4.out.blk.frozen))
          obtain ⟨w5, hw5⟩ : ∃ w5, w5 = (w4.setCell ⟨v, 2, none⟩ (.slice A9 Y.length (c' - 1))).setCell ⟨v, 1, none⟩ (.int .i64 ((least : Int) + O.length + 1)) := ⟨_, rfl⟩
          rw [← hw5]
          have g5 : w4.grownBy w5 (some v) := by
            rw [hw5]
            exact grown_of_set (a := w4) (g := v) (grown_of_set (a := w4) (g := v) (grown_refl w4 (some v)) (.inl rfl) 2 _) (.inl rfl) 1 _
          have RB5 := RB4.out.pop HA9.out w5 (by rw [hw5]; simp)
          have hvl := H.out.blk.lt
          have hlt4 := o4.lt
          have hs3 := HS.out.size
          have sh5 : Shy V w w5 := (Hsh.out.grown g4 (fun k hk hlt => by
            have h1 := (oo.lt k hk).1
            omega)).grown g5 (fun k hk _ => by cases hk; exact H.out.uv)
          have o5 : OwnG isSl w5 w3.heap.size 22 1 A3 (O.length + 1) c3 ((O ++ [(xa, xc, xl)]).map sv) := by
            have := o4.grown g5 (fun k hk e => by cases e; have := (hlt4 v hk).1; omega)
            simpa [sv] using this
          have hO5 : ∀ x ∈ O ++ [(xa, xc, xl)], Rd w5 x.1 x.2.1 x.2.2 ∧ ∀ k, blk x.1 = some k → More V w w3 k ∧ k ≠ v := by
            have kk : ∀ x : Option Addr × Nat × List UInt8, (Rd wr x.1 x.2.1 x.2.2 ∧ ∀ k, blk x.1 = some k → More V w w3 k ∧ k ≠ v) → (Rd w5 x.1 x.2.1 x.2.2 ∧ ∀ k, blk x.1 = some k → More V w w3 k ∧ k ≠ v) := fun x h =>
              ⟨(h.1.grown g4 (fun h0 e => by
                obtain ⟨k, hk, _⟩ := h.1.lt h0
                exact HAb.out k (by rw [← e, hk]) (h.2 k hk).1)).grown g5 (fun _ e => (h.2 v e).2 rfl), h.2⟩
            intro x hx
            rcases List.mem_append.1 hx with hx | hx
            · exact kk x (HO.out x hx)
            · rw [List.mem_singleton] at hx
              subst hx
              have hs := RBh.out.slots _ List.mem_cons_self
              exact kk _ ⟨hs.1, fun k hk => ⟨(hs.2 k hk).1, (hs.2 k hk).2.1⟩⟩
          refine ⟨⟨O ++ [(xa, xc, xl)], Y, A9, c' - 1, by rw [HXY.out]; simp, ⟨A3, c3, by rw [List.length_append, List.length_singleton], by rw [List.length_append, List.length_singleton]; exact o5⟩, by rw [List.length_append, List.length_singleton, ← Nat.add_assoc]; exact RB5, hO5, sh5, Nat.le_trans hsz (Nat.le_trans g4.size g5.size)⟩, ?_⟩
          have h1 := HYl.out
          have h2 := HL.out
          simp only
          omega
end
end Go.Proofs.Yteehicennefcbaa

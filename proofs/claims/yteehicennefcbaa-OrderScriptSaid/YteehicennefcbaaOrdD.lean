/- (*order.Window).Done: the number is done, and what may go goes. -/
import Derived.Test.YteehicennefcbaaOrdW
import Derived.Deep.RegionHeld3
namespace Go.Proofs.Yteehicennefcbaa
open Go.BK Go.RowKit
set_option linter.unusedVariables false

def isSl (v : Value) : Prop := ∃ A n c, v = .slice A n c
theorem isSl.one {v : Value} (h : isSl v) : v.oneCell' = true := by obtain ⟨A, n, c, rfl⟩ := h; rfl
theorem info_sl : (Try.prog.info? 22).map (fun i => (i.zero, i.size, i.bytes)) = some (some (.slice none 0 0), 1, 24) := by kernel_rfl

abbrev More (U : Nat → Prop) (w w' : World) : Nat → Prop := fun k => U k ∨ (w.heap.size ≤ k ∧ k < w'.heap.size)

def DonePost (U : Nat → Prop) (w : World) (g most first i : Nat) (l : List UInt8) (X : List Slot) (e : Ending) (w' : World) : Prop :=
  ∃ (A1 : Option Addr) (c1 : Nat) (O : List (Option Addr × Nat × List UInt8)) (Y : List Slot) (A2 : Option Addr) (c2 : Nat), X.set i (some (A1, c1, l)) = O.map some ++ Y ∧ (∀ y, Y[0]? ≠ some (some y)) ∧ e = .returned (.tuple #[.slice A2 O.length c2, .int .i64 0]) ∧
    OwnG isSl w' w.heap.size 22 1 A2 O.length c2 (O.map sv) ∧ WinR (More U w w') w' g most (first + O.length) Y ∧ (∀ x ∈ O, Rd w' x.1 x.2.1 x.2.2 ∧ ∀ k, blk x.1 = some k → More U w w' k) ∧ Shy U w w'

set_option maxRecDepth 100000 in
set_option maxHeartbeats 2000000 in
theorem done_ok {U : Nat → Prop} {w : World} {g most first c i : Nat} {A : Option Addr} {l : List UInt8} {X : List Slot} (hU : ∀ k, U k → k < w.heap.size) (h : WinR U w g most first X) (hb : (first : Int) + X.length ≤ 1000000) (hx : X[i]? = some none) (hA : Rd w A c l) (hl : l.length ≤ 140737488355328) :
    Calls Try.prog 12 #[.pointer (some ⟨g, 0, none⟩), .int .i64 ((first : Int) + i), .slice A l.length c] w (DonePost U w g most first i l X) := by
  have hno := none_ok h
  have hi : i < X.length := (List.getElem?_eq_some_iff.1 hx).1
  obtain ⟨b, W⟩ := h.atB
  obtain ⟨r1, r2⟩ := W.blk.rules
  have q1 := r1 1
  have q2 := r1 2
  have q3 := r1 3
  simp only [List.getElem?_toArray, List.getElem?_cons_zero, List.getElem?_cons_succ] at q1 q2 q3
  have hlook := W.map.look keyed_int Try.underlying51 (z := .slice none 0 0) (by kernel_rfl) (key_int (a := (first : Int) + i) (by omega)) true
  rw [tab_at, List.getElem?_map, hx] at hlook
  simp only [Option.map_some, Option.map_none, Option.join_some, Option.getD_none, Option.isSome_none, if_true] at hlook
  have hc1 : ¬ (first : Int) + i < first := by omega
  have hc2 : ¬ (first : Int) + X.length ≤ (first : Int) + i := by omega
  have HW := hid W
  have HA := hid hA
  have hg : g < w.heap.size := W.blk.lt
  have HP := hid (fun (A1 : Option Addr) (c1 : Nat) (w1 : World) (e : Ext w w1) (o : Own w1 w.heap.size 5 A1 c1 l) => W.put hx hb e o)
  clear r1 W hA
  go_enter Try.func12, Try.ntmps12
  go_wp2_with fail
  refine hno.mono ?_; rintro e w1 ⟨rfl, rfl⟩
  clear hno
  go_wp2_with fail
  go_region_held3 (fun w' => w'.cell? ⟨g, 3, none⟩ = some (.map (some b))) (go_keep) (first | (go_at_call 27; refine (clone_bytes (HA.out.ext (ext_drewN w 1)) hl).mono ?_; rintro e w1 ⟨A1, c1, rfl, o1, x1⟩; obtain ⟨w2, hrun, W2, ht2⟩ := HP.out A1 c1 w1 (ext_trans (ext_drewN w 1) x1) o1; have s2 : Shy U w w2 := (Shy.of_ext (ext_trans (ext_drewN w 1) x1)).grown ht2 (fun _ e _ => by cases e; exact HW.out.ub); have kk : w1.cell? ⟨g, 3, none⟩ = some (.map (some b)) := (x1.cell (p := ⟨g, 3, none⟩) hg).trans q3; have kk2 : w2.cell? ⟨g, 3, none⟩ = some (.map (some b)) := W2.blk.cell 3; clear o1 ht2))
  generalize hX1 : X.set i (some (A1, c1, l)) = X1 at W2
  have hlen : X1.length = X.length := by rw [← hX1, List.length_set]
  have hl0 : ∀ n, (Instr.lookup 51 (.map (some b)) (.int .i64 first) true).run Try.prog (w2.drewN n) = .ok (.tuple #[(X1[0]?.join.map sv).getD (.slice none 0 0), .bool X1[0]?.join.isSome]) (w2.drewN n) := fun n => by
    have := (W2.map.ext (ext_drewN w2 n)).look keyed_int Try.underlying51 (z := .slice none 0 0) (by kernel_rfl) (key_int (a := (first : Int) + (0 : Nat)) (by omega)) true
    rw [tab_at, show (first : Int) + (0 : Nat) = first from by omega, List.getElem?_map] at this
    have e : (Option.map (Option.map sv) X1[0]?).join = X1[0]?.join.map sv := by rcases X1[0]? with _ | _ | _ <;> rfl
    rw [e] at this
    simpa using this
  have q1' : w2.cell? ⟨g, 1, none⟩ = some (.int .i64 first) := W2.blk.cell 1
  have r2' := W2.blk.frozen
  have H2 := hid W2
  clear r2 q1 q2 q3 hlook kk hrun x1 HP hc1 hc2 W2
  go_wp2_with fail
  go_quiet (fail)
  have hX0 : X1 = ([] : List (Option Addr × Nat × List UInt8)).map some ++ X1 := rfl
  obtain ⟨is0, his0⟩ : ∃ v, v = X1[0]?.join.isSome := ⟨_, rfl⟩
  obtain ⟨v0, hv0⟩ : ∃ v, v = (Option.map sv X1[0]?.join).getD (.slice none 0 0) := ⟨_, rfl⟩
  rw [← his0, ← hv0] at hl0
  go_wp2_with fail
  go_loopw [10, 11, 12] (fun o v is wr => ∃ (O : List (Option Addr × Nat × List UInt8)) (Y : List Slot), X1 = O.map some ++ Y ∧ (∃ A2 c2, o = .slice A2 O.length c2 ∧ OwnG isSl wr w2.heap.size 22 1 A2 O.length c2 (O.map sv)) ∧
      v = (Option.map sv Y[0]?.join).getD (.slice none 0 0) ∧ is = .bool Y[0]?.join.isSome ∧ WinB (More U w w2) wr g b most (first + O.length) Y ∧ (∀ x ∈ O, Rd wr x.1 x.2.1 x.2.2 ∧ ∀ k, blk x.1 = some k → More U w w2 k ∧ k ≠ g ∧ k ≠ b) ∧ Shy U w wr ∧ w2.heap.size ≤ wr.heap.size)
    (fun o _ _ _ => X1.length - (match o with | .slice _ n _ => n | _ => 0))
  case atStart => exact ⟨[], X1, rfl, ⟨none, 0, rfl, .inl ⟨rfl, rfl, rfl, rfl⟩⟩, rfl, rfl, H2.out.ext (ext_drewN w2 nq), by simp, s2.ext (ext_drewN w2 nq), Nat.le_refl _⟩
  case round =>
    obtain ⟨O, Y, hXY, ⟨A2, c2, rfl, oo⟩, rfl, rfl, WB, hO, sh, hsz⟩ := hrel
    have hYl : O.length + Y.length = X.length := by rw [← hlen, hXY]; simp
    cases hY : Y[0]?.join with
    | none =>
      have HYn := hid hY
      have WBh := hid WB
      have HX := hid hXY
      clear hY WB hXY hl0 q1' r2' kk2
      simp only [Option.isSome_none] 
      go_wp2_with fail
      go_ret2
      have hmono : ∀ k, More U w w2 k → More U w wr k := fun k hk => hk.imp id fun h => ⟨h.1, Nat.lt_of_lt_of_le h.2 hsz⟩
      refine ⟨A1, c1, O, Y, A2, c2, hX1.trans HX.out, (fun y h => by have := HYn.out; rw [h] at this; cases this), rfl, oo.mono s2.size, WBh.out.r.mono hmono, fun x hx => ⟨(hO x hx).1, fun k hk => hmono k ((hO x hx).2 k hk).1⟩, sh⟩
    | some x =>
      obtain ⟨Y', rfl⟩ : ∃ Y', Y = some x :: Y' := by
        cases Y with
        | nil => simp at hY
        | cons a r => simp at hY; subst hY; exact ⟨r, rfl⟩
      obtain ⟨i1, hi1, hz0, hz1, hz2⟩ := info_parts info_sl
      have HX := hid hXY
      have WBh := hid WB
      have HO := hid hO
      have hYb : O.length + (Y'.length + 1) = X.length := by simpa using hYl
      clear hY WB hXY hl0 q1' r2' kk2 hO hYl
      simp only [Option.isSome_some, Option.map_some, Option.getD_some]
      obtain ⟨xa, xc, xl⟩ := x
      rw [show sv (xa, xc, xl) = .slice xa xl.length xc from rfl]
      have hsl : isSl (.slice xa xl.length xc) := ⟨_, _, _, rfl⟩
      have h24 : (O.length + 1) * 24 ≤ 140737488355328 := by omega
      have hmx : O.length + 1 ≤ maxLen := by unfold maxLen; omega
      have HB := hid hYb
      have HL := hid hlen
      have HX1 := hid hX1
      have ES : isSl (.slice none 0 0) := ⟨none, 0, 0, rfl⟩
      clear hYb hlen hX1 hX0 his0 hv0
      go_wp2_with (at_builtin; go_must (refine wpList_append_1 rfl (.tmp 73) (.tmp 75) 31 rfl w2.heap.size 22 i1 (.slice none 0 0) 24 Try.underlying31 hi1 hz0 hz1 hz2 rfl ES (fun _ h => h.one) rfl oo (.slice xa xl.length xc) (by rfl) hsl h24 hmx hsz ?_); intro A3 c3 w3 o3 g3 x3)
      have hnB : ∀ k, blk A2 = some k → ¬ More U w w2 k := fun k hk hm => by
        have h1 := (oo.lt k hk).1
        rcases hm with hm | hm
        · have := hU k hm
          have := s2.size
          omega
        · omega
      have WB3 := WBh.out.grown g3 hnB
      have hO3 : ∀ x ∈ O, Rd w3 x.1 x.2.1 x.2.2 ∧ ∀ k, blk x.1 = some k → More U w w2 k ∧ k ≠ g ∧ k ≠ b := fun x hx =>
        ⟨(HO.out x hx).1.grown g3 (fun h0 e => by
          obtain ⟨k, hk, _⟩ := (HO.out x hx).1.lt h0
          exact hnB k (by rw [← e, hk]) ((HO.out x hx).2 k hk).1), (HO.out x hx).2⟩
      have sh3 : Shy U w w3 := sh.grown g3 (fun k hk hlt => by
        have h1 := (oo.lt k hk).1
        have := s2.size
        omega)
      have hfb : ((first + O.length : Nat) : Int) + (Y'.length + 1) ≤ 1000000 := by have := HB.out; omega
      obtain ⟨w4, hdel, g4, WB4⟩ := (WB3.ext (ext_drew w3)).pop hfb
      obtain ⟨r1, r2⟩ := WB3.blk.rules
      have q1 := r1 1
      have q3 := r1 3
      simp only [List.getElem?_toArray, List.getElem?_cons_zero, List.getElem?_cons_succ] at q1 q3
      have B4 := (WB3.blk.ext (ext_drew w3)).grown g4 (by simpa using WB3.ne)
      obtain ⟨r4, f4⟩ := B4.rules
      have p1 := r4 1
      simp only [List.getElem?_toArray, List.getElem?_cons_zero, List.getElem?_cons_succ] at p1
      have p0 : w4.cell? ⟨g, 3, none⟩ = some (.map (some b)) := r4 3
      simp only [Int.natCast_add] at hdel p1 q1 WB4
      have HO3 := hid hO3
      have HW3 := hid WB3
      have HG4 := hid g4
      have HG3 := hid g3
      have HB4 := hid B4
      have HW4 := hid WB4
      clear hO3 WB4 WB3 r1 g4 g3 oo hnB hfb r4 B4
      go_region
      go_wp2_with fail
      have hset := grown_of_set (a := w4) (g := g) (grown_refl _ (some g)) (.inl rfl) 1 (.int .i64 ((first : Int) + O.length + 1))
      have hW5 := HW4.out
      generalize w4.setCell ⟨g, 1, none⟩ (.int .i64 ((first : Int) + O.length + 1)) = w5 at hset hW5 ⊢
      have hg5 : Shy U w w5 := ((sh3.ext (ext_drew w3)).grown HG4.out (fun k hk _ => by cases hk; exact HW.out.ub)).grown hset (fun k hk _ => by cases hk; exact HW.out.ug)
      have hO5 : ∀ x ∈ O ++ [(xa, xc, xl)], Rd w5 x.1 x.2.1 x.2.2 ∧ ∀ k, blk x.1 = some k → More U w w2 k ∧ k ≠ g ∧ k ≠ b := by
        have key : ∀ x : Option Addr × Nat × List UInt8, (Rd w3 x.1 x.2.1 x.2.2 ∧ ∀ k, blk x.1 = some k → More U w w2 k ∧ k ≠ g ∧ k ≠ b) → (Rd w5 x.1 x.2.1 x.2.2 ∧ ∀ k, blk x.1 = some k → More U w w2 k ∧ k ≠ g ∧ k ≠ b) := fun x h =>
          ⟨(((h.1.ext (ext_drew w3)).grown HG4.out (fun _ e => (h.2 b e).2.2 rfl)).grown hset (fun _ e => (h.2 g e).2.1 rfl)), h.2⟩
        intro x hx
        rcases List.mem_append.1 hx with hx | hx
        · exact key x (HO3.out x hx)
        · rw [List.mem_singleton] at hx
          subst hx
          exact key _ (HW3.out.slots _ List.mem_cons_self)
      have ho5 : OwnG isSl w5 w2.heap.size 22 1 A3 (O.length + 1) c3 ((O ++ [(xa, xc, xl)]).map sv) := by
        have hlt := o3.lt
        have hgl := H2.out.blk.lt
        have hbl := H2.out.map.lt
        have := ((o3.ext (ext_drew w3)).grown HG4.out (fun k hk e => by cases e; have := (hlt _ hk).1; omega)).grown hset (fun k hk e => by cases e; have := (hlt _ hk).1; omega)
        simpa [sv] using this
      have hsz5 : w2.heap.size ≤ w5.heap.size := Nat.le_trans (Nat.le_trans (Nat.le_trans hsz x3.size) (by simpa using HG4.out.size)) hset.size
      obtain ⟨r5, f5⟩ := hW5.blk.rules
      have p51 := r5 1
      have p53 := r5 3
      simp only [List.getElem?_toArray, List.getElem?_cons_zero, List.getElem?_cons_succ] at p51 p53
      have hl5 : ∀ n, (Instr.lookup 51 (.map (some b)) (.int .i64 ((first : Int) + O.length + 1)) true).run Try.prog (w5.drewN n) = .ok (.tuple #[(Y'[0]?.join.map sv).getD (.slice none 0 0), .bool Y'[0]?.join.isSome]) (w5.drewN n) := fun n => by
        have := (hW5.map.ext (ext_drewN w5 n)).look keyed_int Try.underlying51 (z := .slice none 0 0) (by kernel_rfl) (key_int (a := ((first + O.length + 1 : Nat) : Int) + (0 : Nat)) (by have := HB.out; omega)) true
        rw [tab_at, show ((first + O.length + 1 : Nat) : Int) + (0 : Nat) = (first : Int) + O.length + 1 from by omega, List.getElem?_map] at this
        have e : (Option.map (Option.map sv) Y'[0]?).join = Y'[0]?.join.map sv := by rcases Y'[0]? with _ | _ | _ <;> rfl
        rw [e] at this
        simpa using this
      have p51' : w5.cell? ⟨g, 1, none⟩ = some (.int .i64 ((first : Int) + O.length + 1)) := by rw [p51]; congr 2
      have HW5 := hid hW5
      have HO5 := hid hO5
      have Ho5 := hid ho5
      have HG5 := hid hg5
      obtain ⟨v5, hv5⟩ : ∃ v, v = (Option.map sv Y'[0]?.join).getD (.slice none 0 0) := ⟨_, rfl⟩
      obtain ⟨i5, hi5⟩ : ∃ v, v = Y'[0]?.join.isSome := ⟨_, rfl⟩
      rw [← hv5, ← hi5] at hl5
      have HV5 := hid hv5
      have HI5 := hid hi5
      clear hset hW5 hO5 ho5 hg5 p51 r5 q1 q3 hdel p1 p0 f4 o3 hv5 hi5
      go_quiet (fail)
      go_roundw
      case rel =>
        repeat apply Exists.intro
        refine ⟨?_, rfl⟩
        refine ⟨O ++ [(xa, xc, xl)], Y', by rw [HX.out]; simp, ⟨A3, c3, by rw [List.length_append, List.length_singleton], ?_⟩, by rw [HV5.out], by rw [HI5.out], ?_, fun x hx => ?_, HG5.out.ext (ext_drewN _ _), hsz5⟩
        · rw [List.length_append, List.length_singleton]; exact Ho5.out.ext (ext_drewN _ _)
        · rw [List.length_append, List.length_singleton, ← Nat.add_assoc]; exact HW5.out.ext (ext_drewN _ _)
        · exact ⟨(HO5.out x hx).1.ext (ext_drewN _ _), (HO5.out x hx).2⟩
      case measure =>
        have := HB.out
        have := HL.out
        simp
        omega

end Go.Proofs.Yteehicennefcbaa

/- The document's window in memory: Done. -/
import Derived.Test.YteehicennefcbaaOrdR
namespace Go.Proofs.Yteehicennefcbaa
open Go.BK Go.RowKit
set_option linter.unusedVariables false

section
variable {V : Nat → Prop} {w w' : World} {v most least c : Nat} {A : Option Addr} {X : List Slot}

theorem rd_set {size n : Nat} {b o : Nat} {xs : List Value} (h : RdG w size (some ⟨b, o, none⟩) n c xs) (h0 : 0 < n) {j : Nat} (hj : j < xs.length) (u : Value) : RdG (w.setCell ⟨b, o + j, none⟩ u) size (some ⟨b, o, none⟩) n c (xs.set j u) := by
  obtain ⟨b', o', hA, hlt, hc⟩ := h.2.2.2 h0
  cases hA
  refine ⟨by rw [List.length_set]; exact h.1, h.2.1, h.2.2.1, fun _ => ⟨b, o, rfl, by simpa [World.setCell] using hlt, fun i x hi => ?_⟩⟩
  rw [List.getElem?_set] at hi
  by_cases e : j = i
  · subst e
    rw [if_pos rfl, if_pos hj] at hi
    cases hi
    exact World.cell?_setCell_same _ _ _ (hc j _ (List.getElem?_eq_getElem hj))
  · rw [if_neg e] at hi
    exact (World.cell?_setCell_other _ _ _ _ (by simp only [ne_eq, Addr.mk.injEq, true_and, and_true]; omega)).trans (hc i x hi)

set_option maxHeartbeats 1000000 in
theorem ref_done_missing {cb : Nat} {B : Option Addr} {l : List UInt8} (n : Int) (h : RefB V w v most least A c X) (hb : (least : Int) + X.length ≤ 1000000) (hn : n < least ∨ (least : Int) + X.length ≤ n) (h63 : n ≤ 9223372036854775807) :
    Calls Try.prog 20 #[.pointer (some ⟨v, 0, none⟩), .int .i64 n, .slice B l.length cb] w fun e w' => e = .returned (.tuple #[.slice none 0 0, .int .i64 6]) ∧ Ext w w' := by
  obtain ⟨r1, r2⟩ := h.blk.rules
  have q1 := r1 1
  have q2 := r1 2
  simp only [List.getElem?_toArray, List.getElem?_cons_zero, List.getElem?_cons_succ] at q1 q2
  clear r1 h
  by_cases hc : n < least
  · have hd : decide (n < (least : Int)) = true := by rw [decide_eq_true_iff]; exact hc
    clear hn hc
    go_enter Try.func20, Try.ntmps20
    go_wp2_with fail
    go_quiet (fail)
    go_wp2_with fail
    go_ret2
    exact ⟨rfl, ext_drewN _ _⟩
  · have hd : decide (n < (least : Int)) = false := by rw [decide_eq_false_iff_not]; exact hc
    have hw : wrap64 (n - least) = n - least := by unfold wrap64; omega
    have hd2 : decide ((X.length : Int) ≤ n - least) = true := by rw [decide_eq_true_iff]; omega
    clear hn hc
    go_enter Try.func20, Try.ntmps20
    go_wp2_with fail
    go_quiet (fail)
    go_wp2_with fail
    go_ret2
    exact ⟨rfl, ext_drewN _ _⟩

set_option maxHeartbeats 1000000 in
theorem ref_done_there {cb i : Nat} {B : Option Addr} {l : List UInt8} {x : Option Addr × Nat × List UInt8} (h : RefB V w v most least A c X) (hb : (least : Int) + X.length ≤ 1000000) (hx : X[i]? = some (some x)) :
    Calls Try.prog 20 #[.pointer (some ⟨v, 0, none⟩), .int .i64 ((least : Int) + i), .slice B l.length cb] w fun e w' => e = .returned (.tuple #[.slice none 0 0, .int .i64 7]) ∧ Ext w w' := by
  obtain ⟨r1, r2⟩ := h.blk.rules
  have q1 := r1 1
  have q2 := r1 2
  simp only [List.getElem?_toArray, List.getElem?_cons_zero, List.getElem?_cons_succ] at q1 q2
  have hi : i < X.length := (List.getElem?_eq_some_iff.1 hx).1
  obtain ⟨b, o, rfl, hV, hne, g1, g2⟩ := h.at_ hx
  have hd : decide ((least : Int) + i < (least : Int)) = false := by rw [decide_eq_false_iff_not]; omega
  have hw : (least : Int) + i - least = i := by omega
  have hd2 : decide (X.length ≤ i) = false := by rw [decide_eq_false_iff_not]; omega
  have hc1 := h.rd.cap
  rw [Option.isSome_some] at g1
  clear r1 h hx g2
  go_enter Try.func20, Try.ntmps20
  go_wp2_with fail
  go_quiet (fail)
  go_wp2_with fail
  go_quiet (fail)
  go_wp2_with fail
  go_ret2
  exact ⟨rfl, ext_trans (ext_drewN _ _) (ext_drewN _ _)⟩
/-- What a store of a slot leaves. -/
theorem RefB.put {w1 : World} {i c1 b o : Nat} {A1 : Option Addr} {l : List UInt8} (h : RefB V w v most least (some ⟨b, o, none⟩) c X) (hx : X[i]? = some none) (e : Ext w w1) (ow : Own w1 w.heap.size 5 A1 c1 l) :
    ∀ w2, w2 = (w1.setCell ⟨b, o + i * 2, none⟩ (.bool true)).setCell ⟨b, o + i * 2 + 1, none⟩ (.slice A1 l.length c1) →
      RefB (More V w w2) w2 v most least (some ⟨b, o, none⟩) c (X.set i (some (A1, c1, l))) ∧ Shy V w w2 ∧ (∀ x, some x ∈ X.set i (some (A1, c1, l)) → Rd w2 x.1 x.2.1 x.2.2) := by
  rintro w2 rfl
  have hi : i < X.length := (List.getElem?_eq_some_iff.1 hx).1
  have h1 := h.ext e
  obtain ⟨b', o', hA, hV, hne, hf⟩ := h.arr (by omega)
  cases hA
  have hbl := h.lt b hV
  have g1 := grown_of_set (a := w1) (g := b) (grown_refl w1 (some b)) (.inl rfl) (o + i * 2) (.bool true)
  have g2 := grown_of_set (a := w1) (g := b) g1 (.inl rfl) (o + i * 2 + 1) (.slice A1 l.length c1)
  have s2 : Shy V w ((w1.setCell ⟨b, o + i * 2, none⟩ (.bool true)).setCell ⟨b, o + i * 2 + 1, none⟩ (.slice A1 l.length c1)) := (Shy.of_ext e).grown g2 (fun k hk _ => by cases hk; exact hV)
  have hsz := s2.size
  have hol := ow.lt
  have hfl := flat_len X
  have hrd : ∀ x, some x ∈ X.set i (some (A1, c1, l)) → Rd ((w1.setCell ⟨b, o + i * 2, none⟩ (.bool true)).setCell ⟨b, o + i * 2 + 1, none⟩ (.slice A1 l.length c1)) x.1 x.2.1 x.2.2 ∧ ∀ k, Go.BK.blk x.1 = some k → More V w ((w1.setCell ⟨b, o + i * 2, none⟩ (.bool true)).setCell ⟨b, o + i * 2 + 1, none⟩ (.slice A1 l.length c1)) k ∧ k ≠ v ∧ b ≠ k := fun x hxm => by
    rcases List.mem_or_eq_of_mem_set hxm with hm | hm
    · have hs := h1.slots x hm
      refine ⟨hs.1.grown g2 (fun _ e2 => (hs.2 b e2).2.2 rfl), fun k hk => ⟨.inl (hs.2 k hk).1, (hs.2 k hk).2.1, fun e2 => (hs.2 k hk).2.2 (by subst e2; rfl)⟩⟩
    · cases hm
      refine ⟨ow.rd.grown g2 (fun _ e2 => by have := (hol b e2).1; omega), fun k hk => ?_⟩
      have h3 := hol k hk
      have hv := h.blk.lt
      refine ⟨.inr ⟨h3.1, Nat.lt_of_lt_of_le h3.2 g2.size⟩, by omega, by omega⟩
  refine ⟨⟨h.m1, h.m64, h.l1, .inl h.uv, fun k hk => ?_, ?_, ?_, fun _ => ⟨b, o, rfl, .inl hV, hne, fun j => ?_⟩, fun x hxm => ⟨(hrd x hxm).1, fun k hk => ⟨((hrd x hxm).2 k hk).1, ((hrd x hxm).2 k hk).2.1, fun e2 => ((hrd x hxm).2 k hk).2.2 (by cases e2; rfl)⟩⟩⟩, s2, fun x hxm => (hrd x hxm).1⟩
  · rcases hk with hk | hk
    · exact Nat.lt_of_lt_of_le (h.lt k hk) hsz
    · exact hk.2
  · rw [List.length_set]
    exact h1.blk.grown g2 (by simpa using Ne.symm hne)
  · rw [List.length_set, flat_set X i _ hi]
    have r1 := rd_set h1.rd (by omega) (j := i * 2) (by omega) (.bool true)
    have r2 := rd_set r1 (by omega) (j := i * 2 + 1) (by rw [List.length_set]; omega) (.slice A1 l.length c1)
    exact r2
  · obtain ⟨b', o', hA, hV', hne', hf1⟩ := h1.arr (by omega)
    cases hA
    simp [World.frozen?_setCell, hf1 j]

/-- What a step of the flush leaves. -/
theorem RefB.pop {x : Option Addr × Nat × List UInt8} {A' : Option Addr} (h : RefB V w v most least A c (some x :: X)) (hA : 0 < X.length → A' = A.map (·.add 2)) :
    ∀ w2, w2 = (w.setCell ⟨v, 2, none⟩ (.slice A' X.length (c - 1))).setCell ⟨v, 1, none⟩ (.int .i64 ((least : Int) + 1)) → RefB V w2 v most (least + 1) A' (c - 1) X := by
  rintro w2 rfl
  have g1 := grown_of_set (a := w) (g := v) (grown_refl w (some v)) (.inl rfl) 2 (.slice A' X.length (c - 1))
  have g2 := grown_of_set (a := w) (g := v) g1 (.inl rfl) 1 (.int .i64 ((least : Int) + 1))
  obtain ⟨b, o, rfl, hV, hne, hf⟩ := h.arr (by simp)
  have hcut := h.rd.cut (i := 1) (j := X.length + 1) (by omega) (by simp) (A' := A') (fun hlt => by rw [hA (by omega)])
  refine ⟨h.m1, h.m64, by omega, h.uv, fun k hk => Nat.lt_of_lt_of_le (h.lt k hk) g2.size, ?_, ?_, fun h0 => ⟨b, o + 2, by rw [hA h0]; simp [Addr.add], hV, hne, fun j => ?_⟩, fun y hy => ?_⟩
  · have := (h.blk.set_ 2 (.slice A' X.length (c - 1))).set_ 1 (.int .i64 ((least : Int) + 1))
    exact this
  · have r1 : RdG w 2 A' X.length (c - 1) (X.flatMap slotC) := by
      have e : (List.take ((X.length + 1) * 2) ((some x :: X).flatMap slotC)).drop (1 * 2) = X.flatMap slotC := by
        rw [List.take_of_length_le (by rw [flat_len]; simp), List.flatMap_cons, slotC_eq]
        simp
      rw [e] at hcut
      simpa using hcut
    exact r1.grown g2 (fun h0 e => by rw [hA h0] at e; simp [Addr.add] at e; exact hne e)
  · simp [World.frozen?_setCell, hf j]
  · have hs := h.slots y (List.mem_cons_of_mem _ hy)
    refine ⟨hs.1.grown g2 (fun _ e => (hs.2 v e).2.1 rfl), fun k hk => ⟨(hs.2 k hk).1, (hs.2 k hk).2.1, fun e => ?_⟩⟩
    have hX : 0 < X.length := by cases X with | nil => simp at hy | cons a r => simp
    rw [hA hX] at e
    exact (hs.2 k hk).2.2 (by simpa [Addr.add] using e)
end
end Go.Proofs.Yteehicennefcbaa

/- The document's window in memory: New, First, Ready, Open. -/
import Derived.Test.YteehicennefcbaaOrdE
import Derived.Test.YteehicennefcbaaKStep
import Derived.Deep.RegionHeld3
namespace Go.Proofs.Yteehicennefcbaa
open Go.BK Go.RowKit
set_option linter.unusedVariables false

def slotC : Slot → List Value
  | none => [.bool false, .slice none 0 0]
  | some x => [.bool true, sv x]
def slotV (s : Slot) : Value := (s.map sv).getD (.slice none 0 0)
theorem slotC_eq (s : Slot) : slotC s = [.bool s.isSome, slotV s] := by cases s <;> rfl
theorem flat_len (X : List Slot) : (X.flatMap slotC).length = X.length * 2 := by
  induction X with
  | nil => rfl
  | cons a X ih => rw [List.flatMap_cons, List.length_append, ih, slotC_eq]; simp; omega
theorem flat_at : ∀ (X : List Slot) (i : Nat) (s : Slot), X[i]? = some s → (X.flatMap slotC)[i * 2]? = some (.bool s.isSome) ∧ (X.flatMap slotC)[i * 2 + 1]? = some (slotV s) := by
  intro X
  induction X with
  | nil => intro i s h; simp at h
  | cons a X ih =>
    intro i s h
    rw [List.flatMap_cons, slotC_eq]
    rcases i with _ | i
    · simp at h; subst h; exact ⟨rfl, rfl⟩
    · rw [List.getElem?_cons_succ] at h
      obtain ⟨h1, h2⟩ := ih i s h
      rw [show (i + 1) * 2 = i * 2 + 1 + 1 from by omega]
      exact ⟨by simpa using h1, by simpa using h2⟩
theorem flat_set : ∀ (X : List Slot) (i : Nat) (s : Slot), i < X.length → (X.set i s).flatMap slotC = ((X.flatMap slotC).set (i * 2) (.bool s.isSome)).set (i * 2 + 1) (slotV s) := by
  intro X
  induction X with
  | nil => intro i s h; simp at h
  | cons a X ih =>
    intro i s h
    rcases i with _ | i
    · rw [List.set_cons_zero, List.flatMap_cons, List.flatMap_cons, slotC_eq, slotC_eq]; rfl
    · rw [List.set_cons_succ, List.flatMap_cons, List.flatMap_cons, slotC_eq a, ih i s (by simpa using h), show (i + 1) * 2 = i * 2 + 1 + 1 from by omega]; rfl

structure RefB (V : Nat → Prop) (w : World) (v most least : Nat) (A : Option Addr) (c : Nat) (X : List Slot) : Prop where
  m1 : 1 ≤ most
  m64 : most ≤ 64
  l1 : 1 ≤ least
  uv : V v
  lt : ∀ k, V k → k < w.heap.size
  blk : Blk w v 49 #[.int .i64 most, .int .i64 least, .slice A X.length c]
  rd : RdG w 2 A X.length c (X.flatMap slotC)
  arr : 0 < X.length → ∃ b o, A = some ⟨b, o, none⟩ ∧ V b ∧ b ≠ v ∧ ∀ i, w.frozen? ⟨b, i, none⟩ = false
  slots : ∀ x, some x ∈ X → Rd w x.1 x.2.1 x.2.2 ∧ ∀ k, Go.BK.blk x.1 = some k → V k ∧ k ≠ v ∧ Go.BK.blk A ≠ some k

section
variable {V : Nat → Prop} {w w' : World} {v most least c : Nat} {A : Option Addr} {X : List Slot}
theorem RefB.keep (h : RefB V w v most least A c X) (e : ∀ k, V k → w'.heap[k]? = w.heap[k]?) (hs : w.heap.size ≤ w'.heap.size) : RefB V w' v most least A c X := by
  refine ⟨h.m1, h.m64, h.l1, h.uv, fun k hk => Nat.lt_of_lt_of_le (h.lt k hk) hs, (e v h.uv).trans h.blk, ?_, fun h0 => ?_, fun x hx => ⟨?_, (h.slots x hx).2⟩⟩
  · refine ⟨h.rd.1, h.rd.2.1, h.rd.2.2.1, fun h0 => ?_⟩
    obtain ⟨b, o, hA, hb, hc⟩ := h.rd.2.2.2 h0
    obtain ⟨b', o', hA', hV, _⟩ := h.arr h0
    rw [hA] at hA'; injection hA' with hA'; injection hA' with e1 e2; subst e1
    exact ⟨b, o, hA, Nat.lt_of_lt_of_le hb hs, fun j u hj => (World.cell?_of_block (e b hV)).trans (hc j u hj)⟩
  · obtain ⟨b, o, hA, hV, hne, hf⟩ := h.arr h0
    exact ⟨b, o, hA, hV, hne, fun i => by have := hf i; unfold World.frozen? at this ⊢; rw [e b hV]; exact this⟩
  · have := (h.slots x hx).1
    refine ⟨this.1, this.2.1, this.2.2.1, fun h0 => ?_⟩
    obtain ⟨b, o, hA, hb, hc⟩ := this.2.2.2 h0
    have hV := ((h.slots x hx).2 b (by rw [hA]; rfl)).1
    exact ⟨b, o, hA, Nat.lt_of_lt_of_le hb hs, fun j u hj => (World.cell?_of_block (e b hV)).trans (hc j u hj)⟩
theorem RefB.ext (h : RefB V w v most least A c X) (e : Ext w w') : RefB V w' v most least A c X := h.keep (fun k hk => e.block k (h.lt k hk)) e.size
theorem RefB.shy {U : Nat → Prop} (h : RefB V w v most least A c X) (e : Shy U w w') (hd : ∀ k, V k → ¬ U k) : RefB V w' v most least A c X := h.keep (fun k hk => e.block k (h.lt k hk) (hd k hk)) e.size
theorem RefB.at_ (h : RefB V w v most least A c X) {i : Nat} {s : Slot} (hi : X[i]? = some s) : ∃ b o, A = some ⟨b, o, none⟩ ∧ V b ∧ b ≠ v ∧ w.cell? ⟨b, o + i * 2, none⟩ = some (.bool s.isSome) ∧ w.cell? ⟨b, o + i * 2 + 1, none⟩ = some (slotV s) := by
  have hl := (List.getElem?_eq_some_iff.1 hi).1
  obtain ⟨b, o, hA, hb, hc⟩ := h.rd.2.2.2 (by omega)
  obtain ⟨b', o', hA', hV, hne, _⟩ := h.arr (by omega)
  rw [hA] at hA'; injection hA' with hA'; injection hA' with e1 e2; subst e1
  obtain ⟨f1, f2⟩ := flat_at X i s hi
  exact ⟨b, o, hA, hV, hne, hc _ _ f1, by rw [Nat.add_assoc]; exact hc _ _ f2⟩

theorem ref_new_no (most : Int) (w : World) (h : most < 1 ∨ 64 < most) :
    Calls Try.prog 17 #[.int .i64 most] w fun e w' => e = .returned (.tuple #[.pointer none, .int .i64 2]) ∧ w = w' := by
  by_cases h1 : most < 1
  · go_enter Try.func17, Try.ntmps17
    go_wp2
    go_ret2
    exact ⟨rfl, rfl⟩
  · have h2 : 64 < most := by omega
    go_enter Try.func17, Try.ntmps17
    go_wp2
    go_ret2
    exact ⟨rfl, rfl⟩
theorem ref_new (most : Nat) (w : World) (h1 : 1 ≤ most) (h2 : most ≤ 64) :
    Calls Try.prog 17 #[.int .i64 most] w fun e w' => ∃ v, e = .returned (.tuple #[.pointer (some ⟨v, 0, none⟩), .int .i64 0]) ∧ RefB (fun k => w.heap.size ≤ k ∧ k < w'.heap.size) w' v most 1 none 0 [] ∧ Ext w w' := by
  have q1 : ¬ (most : Int) < 1 := by omega
  have q2 : ¬ 64 < (most : Int) := by omega
  go_enter Try.func17, Try.ntmps17
  go_wp2
  go_ret2
  refine ⟨w.heap.size, rfl, ⟨h1, h2, Nat.le_refl _, ⟨Nat.le_refl _, by simp⟩, fun k hk => hk.2, Blk.new w _ _, RdG.none_ _ 2, fun h => by simp at h, fun x hx => by simp at hx⟩, ext_alloc _ _⟩

theorem ref_first (h : RefB V w v most least A c X) :
    Calls Try.prog 23 #[.pointer (some ⟨v, 0, none⟩)] w fun e w' => e = .returned (.int .i64 (if X.length = 0 then 0 else least)) ∧ w = w' := by
  obtain ⟨r1, r2⟩ := h.blk.rules
  have q1 := r1 1
  have q2 := r1 2
  simp only [List.getElem?_toArray, List.getElem?_cons_zero, List.getElem?_cons_succ] at q1 q2
  clear r1
  by_cases h0 : X.length = 0
  · have hz : ((X.length : Int) == 0) = true := by rw [beq_iff_eq]; omega
    rw [if_pos h0]
    clear h
    go_enter Try.func23, Try.ntmps23
    go_wp2_with fail
    go_ret
    exact ⟨rfl, rfl⟩
  · have hz : ((X.length : Int) == 0) = false := by rw [beq_eq_false_iff_ne]; omega
    rw [if_neg h0]
    clear h
    go_enter Try.func23, Try.ntmps23
    go_wp2_with fail
    go_ret
    exact ⟨rfl, rfl⟩

theorem count_take (X : List Slot) (k : Nat) (s : Slot) (h : X[k]? = some s) : (X.take (k + 1)).countP Option.isSome = (X.take k).countP Option.isSome + if s.isSome then 1 else 0 := by
  obtain ⟨hk, rfl⟩ := List.getElem?_eq_some_iff.1 h
  rw [List.take_succ_eq_append_getElem hk, List.countP_append]
  simp [List.countP_cons]
set_option maxHeartbeats 1000000 in
theorem ref_ready (h : RefB V w v most least A c X) (hb : X.length ≤ 1000000) :
    Calls Try.prog 25 #[.pointer (some ⟨v, 0, none⟩)] w fun e w' => e = .returned (.int .i64 (X.countP Option.isSome)) ∧ w = w' := by
  obtain ⟨r1, r2⟩ := h.blk.rules
  have q2 := r1 2
  simp only [List.getElem?_toArray, List.getElem?_cons_zero, List.getElem?_cons_succ] at q2
  have H := hid h
  clear r1 h
  go_enter Try.func25, Try.ntmps25
  go_wp2_with fail
  go_loopw [3, 4] (fun n i wr => ∃ k : Nat, k ≤ X.length ∧ i = .int .i64 k ∧ n = .int .i64 ((X.take k).countP Option.isSome : Nat) ∧ wr = w) (fun _ i _ => X.length - (intOf i).toNat)
  case atStart => exact ⟨0, Nat.zero_le _, rfl, rfl, rfl⟩
  case round =>
    obtain ⟨k, hk, rfl, rfl, rfl⟩ := hrel
    by_cases hlt : k < X.length
    · obtain ⟨s, hs⟩ : ∃ s, X[k]? = some s := ⟨X[k], List.getElem?_eq_getElem hlt⟩
      obtain ⟨b, o, rfl, hV, hne, g1, g2⟩ := H.out.at_ hs
      have hct := count_take X k s hs
      have hcb : (X.take k).countP Option.isSome ≤ 1000000 := Nat.le_trans List.countP_le_length (by simp; omega)
      generalize (X.take k).countP Option.isSome = n0 at *
      cases hsv : s.isSome with
      | true =>
        rw [hsv] at g1 hct
        rw [if_pos rfl] at hct
        have HC := hid hct
        clear hct hs g2 hsv
        go_wp2_with fail
        go_roundw
        case rel => exact ⟨k + 1, by omega, by go_num, by rw [HC.out]; go_num, trivial⟩
        case measure => simp [intOf]; omega
      | false =>
        rw [hsv] at g1 hct
        rw [if_neg (by decide), Nat.add_zero] at hct
        have HC := hid hct
        clear hct hs g2 hsv
        go_wp2_with fail
        go_roundw
        case rel => exact ⟨k + 1, by omega, by go_num, by rw [HC.out]; rfl, trivial⟩
        case measure => simp [intOf]; omega
    · have hke : k = X.length := by omega
      subst hke
      rw [List.take_length]
      clear hlt hk
      go_wp2_with fail
      go_ret
      exact ⟨rfl, rfl⟩

def isOne (v : Value) : Prop := v.oneCell' = true
theorem flat_one (X : List Slot) : ∀ u ∈ X.flatMap slotC, isOne u := by
  intro u hu
  obtain ⟨s, _, hs⟩ := List.mem_flatMap.1 hu
  cases s with
  | none => simp [slotC] at hs; rcases hs with rfl | rfl <;> rfl
  | some x => simp [slotC] at hs; rcases hs with rfl | rfl <;> rfl
theorem info_slot : (Try.prog.info? 59).map (fun i => (i.zero, i.size, i.bytes)) = some (some (.agg #[.bool false, .slice none 0 0]), 2, 32) := by kernel_rfl

theorem ref_open_full (h : RefB V w v most least A c X) (hf : most ≤ X.length) (hb : X.length ≤ 1000000) :
    Calls Try.prog 18 #[.pointer (some ⟨v, 0, none⟩)] w fun e w' => e = .returned (.tuple #[.int .i64 0, .int .i64 8]) ∧ Ext w w' := by
  obtain ⟨r1, r2⟩ := h.blk.rules
  have q0 := r1 0
  have q2 := r1 2
  simp only [List.getElem?_toArray, List.getElem?_cons_zero, List.getElem?_cons_succ] at q0 q2
  have hd : decide (most ≤ X.length) = true := by rw [decide_eq_true_iff]; exact hf
  clear r1 h hf
  go_enter Try.func18, Try.ntmps18
  go_wp2_with fail
  go_quiet (fail)
  go_wp2_with fail
  go_ret2
  exact ⟨rfl, ext_drewN _ _⟩

set_option maxRecDepth 100000 in
set_option maxHeartbeats 2000000 in
theorem ref_open_ok (h : RefB V w v most least A c X) (hf : ¬ most ≤ X.length) (hb : (least : Int) + X.length ≤ 1000000) :
    Calls Try.prog 18 #[.pointer (some ⟨v, 0, none⟩)] w fun e w' => e = .returned (.tuple #[.int .i64 ((least : Int) + X.length), .int .i64 0]) ∧
      (∃ A' c', RefB (More V w w') w' v most least A' c' (X ++ [none])) ∧ Shy V w w' := by
  obtain ⟨r1, r2⟩ := h.blk.rules
  have q0 := r1 0
  have q1 := r1 1
  have q2 := r1 2
  simp only [List.getElem?_toArray, List.getElem?_cons_zero, List.getElem?_cons_succ] at q0 q1 q2
  have hd : decide (most ≤ X.length) = false := by rw [decide_eq_false_iff_not]; exact hf
  obtain ⟨i0, hi, hz0, hz1, hz2⟩ := info_parts info_slot
  have H := hid h
  have hi' := hid hi
  have hl : X.length ≤ 64 := by have := h.m64; omega
  have hvlt := h.blk.lt
  clear r1 h hf hi
  go_enter Try.func18, Try.ntmps18
  go_wp2_with fail
  go_quiet (fail)
  have e0 := ext_drewN w nq
  have H0 := hid (H.out.ext e0)
  have E0 := hid e0
  generalize hw0 : w.drewN nq = w0 at *
  have q2' : w0.cell? ⟨v, 2, none⟩ = some (.slice A X.length c) := H0.out.blk.cell 2
  have q1' : w0.cell? ⟨v, 1, none⟩ = some (.int .i64 least) := H0.out.blk.cell 1
  have f2' : ∀ i, w0.frozen? ⟨v, i, none⟩ = false := H0.out.blk.frozen
  have hv0 : v < w0.heap.size := H0.out.blk.lt
  have hne0 := World.new_ne w0 ⟨v, 2, none⟩ q2'
  have hown := OwnG.new (ok := isOne) (base := w0.heap.size) (size := 2) (e := 59) w0 [] 0 0 (Nat.le_refl _) rfl (Nat.le_refl _) (by simp [maxLen]) (by simp)
  have hrd : RdG (w0.alloc (.cells #[] 59)) 2 A X.length c (X.flatMap slotC) := H0.out.rd.ext (ext_alloc _ _)
  clear hw0 e0 q0 q1 q2 r2
  go_wp2_with (first | ((with_reducible show wpList _ _ _ (⟨some 20, _, _, _, _, _⟩ :: _) _ _); go_must (refine wpList_append_g rfl (.tmp 15) (.tmp 19) 47 rfl w0.heap.size 59 i0 (.agg #[.bool false, .slice none 0 0]) 2 32 Try.underlying47 hi'.out hz0 hz1 hz2 (by rfl) (by decide) (by simp [Value.cells]; exact ⟨rfl, rfl⟩) (fun _ h => h) (by rfl) hown (by rfl) hrd (flat_one X) (by omega) (by unfold maxLen; omega) (by simp) ?_); intro A1 c1 w1 o1 g1 n1; simp only [Nat.zero_add, Nat.zero_mul, List.take_nil, List.nil_append] at o1; have hx1 : RdG (w1.alloc (.cells #[.bool false, .slice none 0 0] 59)) 2 (some ⟨w1.heap.size, 0, none⟩) 1 1 [.bool false, .slice none 0 0] := (OwnG.new (ok := fun _ => True) (base := 0) (size := 2) (e := 59) w1 [.bool false, .slice none 0 0] 1 1 (Nat.zero_le _) rfl (Nat.le_refl _) (by simp [maxLen]) (fun _ _ => trivial)).rd; have o1' := o1.ext (ext_alloc w1 (.cells #[.bool false, .slice none 0 0] 59)); have e1 : Ext w0 w1 := below_of_grown (ext_alloc w0 (.cells #[] 59)) (by simp) g1 (fun g h => by simp at h; omega); have hsz1 := e1.size) | ((with_reducible show wpList _ _ _ (⟨some 23, _, _, _, _, _⟩ :: _) _ _); go_must (refine wpList_append_g rfl (.tmp 20) (.tmp 22) 47 rfl w0.heap.size 59 i0 (.agg #[.bool false, .slice none 0 0]) 2 32 Try.underlying47 hi'.out hz0 hz1 hz2 (by rfl) (by decide) (by simp [Value.cells]; exact ⟨rfl, rfl⟩) (fun _ h => h) (by rfl) o1' (by rfl) hx1 (by intro u hu; simp at hu; rcases hu with rfl | rfl <;> rfl) (by omega) (by unfold maxLen; omega) (by simp; omega) ?_); intro A2 c2 w2 o2 g2 n2; have e2 : Ext w0 w2 := below_of_grown (ext_trans e1 (ext_alloc w1 (.cells #[.bool false, .slice none 0 0] 59))) (by simp; omega) g2 (fun g h => (o1.lt g h).1); have B2 := H0.out.blk.ext e2; have p2 : w2.cell? ⟨v, 2, none⟩ = some (.slice A X.length c) := B2.cell 2; have p1 : w2.cell? ⟨v, 1, none⟩ = some (.int .i64 least) := B2.cell 1; have pf : ∀ i, w2.frozen? ⟨v, i, none⟩ = false := B2.frozen))
  have hb1 : (X.length : Int) + 1 ≤ 1000000 := by omega
  have hb2 : (least : Int) + (X.length + 1) ≤ 1000001 := by omega
  have hsub : (least : Int) + ((X.length : Int) + 1) - 1 = (least : Int) + X.length := by omega
  have hR : RefB (More V w w2) (w2.setCell ⟨v, 2, none⟩ (.slice A2 (X.length + 1) c2)) v most least A2 c2 (X ++ [none]) := by
    have hg := grown_of_set (a := w2) (g := v) (grown_refl _ (some v)) (.inl rfl) 2 (.slice A2 (X.length + 1) c2)
    have hsz : (w2.setCell ⟨v, 2, none⟩ (.slice A2 (X.length + 1) c2)).heap.size = w2.heap.size := by simp [World.setCell]
    have hlt2 := o2.lt
    have h02 := Nat.le_trans E0.out.size e2.size
    have o3 := o2.grown hg (fun b hb e => by cases e; have := (hlt2 v hb).1; omega)
    have hfl : (X ++ [none]).flatMap slotC = X.flatMap slotC ++ [.bool false, .slice none 0 0] := by simp [slotC]
    refine ⟨H0.out.m1, H0.out.m64, H0.out.l1, .inl H0.out.uv, fun k hk => ?_, ?_, ?_, fun h0 => ?_, fun x hx => ?_⟩
    · rw [hsz]
      rcases hk with hk | hk
      · exact Nat.lt_of_lt_of_le (H0.out.lt k hk) e2.size
      · exact hk.2
    · have := (H0.out.blk.ext e2).set_ 2 (.slice A2 (X.length + 1) c2)
      rw [List.length_append, List.length_singleton]
      exact this
    · rw [hfl, List.length_append, List.length_singleton]
      exact o3.rd
    · obtain ⟨b, hA, hb1, hb2⟩ := o3.head (by have := o3.rd.2.1; omega)
      refine ⟨b, 0, hA, .inr ⟨Nat.le_trans E0.out.size hb1, by rw [← hsz]; exact hb2⟩, by omega, fun i => o3.frozen hA i⟩
    · have hx' : some x ∈ X := by simpa using hx
      have hs := H0.out.slots x hx'
      refine ⟨(hs.1.ext e2).grown hg (fun _ e => (hs.2 v e).2.1 rfl), fun k hk => ⟨.inl (hs.2 k hk).1, (hs.2 k hk).2.1, fun e => ?_⟩⟩
      have h1 := H0.out.lt k (hs.2 k hk).1
      have h2 := (hlt2 k e).1
      omega
  have hS : Shy V w (w2.setCell ⟨v, 2, none⟩ (.slice A2 (X.length + 1) c2)) :=
    (Shy.of_ext (ext_trans E0.out e2)).grown (grown_of_set (grown_refl _ (some v)) (.inl rfl) 2 _) (fun k hk _ => by cases hk; exact H0.out.uv)
  have hszS : (w2.setCell ⟨v, 2, none⟩ (.slice A2 (X.length + 1) c2)).heap.size = w2.heap.size := by simp [World.setCell]
  have HRR := hid hR
  have HSS := hid hS
  have HSZ := hid hszS
  clear hR hS hszS o2 g2 n2 o1' hx1 o1 g1 n1 hown hrd
  go_quiet (fail)
  go_wp2_with fail
  go_ret2
  refine ⟨rfl, ⟨A2, c2, ?_⟩, HSS.out.ext (ext_drewN _ _)⟩
  have h9 := HRR.out.ext (ext_drewN _ nq)
  have hM : More V w ((w2.setCell ⟨v, 2, none⟩ (.slice A2 (X.length + 1) c2)).drewN nq) = More V w w2 := by
    funext k
    show (V k ∨ (w.heap.size ≤ k ∧ k < (w2.setCell ⟨v, 2, none⟩ (.slice A2 (X.length + 1) c2)).heap.size)) = _
    rw [HSZ.out]
  rw [hM]
  exact h9
end
end Go.Proofs.Yteehicennefcbaa

/- order.Window: how it stands in memory; New, none, Len, Open, First, Ready. -/
import Derived.Test.YteehicennefcbaaKBase
import Derived.Test.YteehicennefcbaaKitM
import Derived.Deep.QuietTactic
namespace Go.Proofs.Yteehicennefcbaa
open Go.BK Go.RowKit
set_option linter.unusedVariables false

/-- A slot: what is done with, where its bytes stand. -/
abbrev Slot := Option (Option Addr × Nat × List UInt8)
def sv (x : Option Addr × Nat × List UInt8) : Value := .slice x.1 x.2.2.length x.2.1
def bytesOf (X : List Slot) : List (Option (List UInt8)) := X.map (Option.map (·.2.2))

def tab (first : Nat) (V : List (Option Value)) : Lit → Option Value
  | .int .i64 k => if k < first then none else (V[(k - first).toNat]?).join
  | _ => none

theorem tab_at (first i : Nat) (V : List (Option Value)) : tab first V (.int .i64 ((first : Int) + i)) = (V[i]?).join := by
  show (if (first : Int) + i < first then none else (V[((first : Int) + i - first).toNat]?).join) = _
  rw [if_neg (by omega), show ((first : Int) + i - first).toNat = i from by omega]
theorem tab_open (first : Nat) (V : List (Option Value)) : tab first (V ++ [none]) = tab first V := by
  funext x
  unfold tab
  split
  · split
    · rfl
    · rename_i k h
      by_cases h1 : (k - first).toNat < V.length
      · rw [List.getElem?_append_left h1]
      · rw [List.getElem?_append_right (by omega), List.getElem?_eq_none (l := V) (by omega)]
        by_cases h2 : (k - first).toNat - V.length = 0
        · rw [h2]; rfl
        · rw [List.getElem?_eq_none (by simp; omega)]
  · rfl
theorem tab_put (first i : Nat) (V : List (Option Value)) (v : Value) (hi : i < V.length) : putF (tab first V) (.int .i64 ((first : Int) + i)) v = tab first (V.set i (some v)) := by
  funext x
  unfold putF
  by_cases h : x = .int .i64 ((first : Int) + i)
  · rw [if_pos h, h, tab_at, List.getElem?_set_self (by omega)]; rfl
  · rw [if_neg h]
    unfold tab
    split
    · split
      · rfl
      · rename_i k h1
        rw [List.getElem?_set_ne]
        intro e
        apply h
        rw [show (first : Int) + i = k from by omega]
    · rfl
theorem tab_del (first : Nat) (v : Option Value) (V : List (Option Value)) : delF (tab first (v :: V)) (.int .i64 first) = tab (first + 1) V := by
  funext x
  unfold delF
  by_cases h : x = .int .i64 first
  · rw [if_pos h, h]
    unfold tab
    simp only
    rw [if_pos (by omega)]
  · rw [if_neg h]
    unfold tab
    split
    · rename_i k
      by_cases h1 : k < (first : Int)
      · rw [if_pos h1, if_pos (by omega)]
      · have h2 : k ≠ first := fun e => h (by rw [e])
        rw [if_neg h1, if_neg (by omega), show (k - (first : Int)).toNat = (k - ((first + 1 : Nat) : Int)).toNat + 1 from by omega, List.getElem?_cons_succ]
    · rfl

/-- Block g is a window: U tells the blocks that are its. -/
def WinR (U : Nat → Prop) (w : World) (g most first : Nat) (X : List Slot) : Prop :=
  1 ≤ most ∧ most ≤ 64 ∧ 1 ≤ first ∧ U g ∧
  (∃ b, U b ∧ g ≠ b ∧ Blk w g 53 #[.int .i64 most, .int .i64 first, .int .i64 ((first : Int) + X.length), .map (some b)] ∧
    MapF Try.prog w 3 b (tab first (X.map (Option.map sv))) (X.countP Option.isSome) ∧
    ∀ x, some x ∈ X → Rd w x.1 x.2.1 x.2.2 ∧ ∀ k, blk x.1 = some k → U k ∧ k ≠ g ∧ k ≠ b)

section
variable {U : Nat → Prop} {w w' : World} {g most first : Nat} {X : List Slot}
theorem WinR.mono {U' : Nat → Prop} (h : WinR U w g most first X) (hU : ∀ k, U k → U' k) : WinR U' w g most first X := by
  obtain ⟨h1, h2, h3, h4, b, h5, h6, h7, h8, h9⟩ := h
  exact ⟨h1, h2, h3, hU _ h4, b, hU _ h5, h6, h7, h8, fun x hx => ⟨(h9 x hx).1, fun k hk => ⟨hU _ ((h9 x hx).2 k hk).1, ((h9 x hx).2 k hk).2⟩⟩⟩
theorem WinR.ext (h : WinR U w g most first X) (e : Ext w w') : WinR U w' g most first X := by
  obtain ⟨h1, h2, h3, h4, b, h5, h6, h7, h8, h9⟩ := h
  exact ⟨h1, h2, h3, h4, b, h5, h6, h7.ext e, h8.ext e, fun x hx => ⟨(h9 x hx).1.ext e, (h9 x hx).2⟩⟩
theorem WinR.drewN (h : WinR U w g most first X) (n : Nat) : WinR U (w.drewN n) g most first X := h.ext (ext_drewN w n)
theorem WinR.drew (h : WinR U w g most first X) : WinR U w.drew g most first X := h.ext (Below.refl _ _).drew
end

/-- The key law of int. -/
theorem keyed_int : Go.Maps.Keyed Try.prog 3 := Go.Maps.int_keyed Try.underlying3
theorem key_int {a : Int} (h : -9223372036854775808 ≤ a ∧ a ≤ 9223372036854775807) : keyOf Try.prog 3 (.int .i64 a) = some (.int .i64 a) := Go.Maps.keyOf_int_mk Try.underlying3 (by simp only [Lit.wf, Bool.and_eq_true, decide_eq_true_eq]; exact h)

theorem none_ok {U : Nat → Prop} {w : World} {g most first : Nat} {X : List Slot} (h : WinR U w g most first X) :
    Calls Try.prog 26 #[.pointer (some ⟨g, 0, none⟩)] w fun e w' => e = .returned (.bool false) ∧ w = w' := by
  obtain ⟨h1, h2, h3, h4, b, h5, h6, h7, h8, h9⟩ := h
  obtain ⟨r1, r2⟩ := h7.rules
  have q := r1 0
  have hm : ((most : Int) == 0) = false := by rw [beq_eq_false_iff_ne]; omega
  simp only [List.getElem?_toArray, List.getElem?_cons_zero] at q
  clear r1 h7 h8 h9
  go_enter Try.func26, Try.ntmps26
  go_wp2
  go_ret
  exact ⟨rfl, rfl⟩
theorem none_nil (w : World) :
    Calls Try.prog 26 #[.pointer none] w fun e w' => e = .returned (.bool true) ∧ w = w' := by
  go_enter Try.func26, Try.ntmps26
  go_wp2
  go_ret
  exact ⟨rfl, rfl⟩

theorem len_ok {U : Nat → Prop} {w : World} {g most first : Nat} {X : List Slot} (h : WinR U w g most first X) (hb : (first : Int) + X.length ≤ 1000000) :
    Calls Try.prog 15 #[.pointer (some ⟨g, 0, none⟩)] w fun e w' => e = .returned (.int .i64 X.length) ∧ ∃ m, w' = w.drewN m := by
  have hn := none_ok h
  obtain ⟨h1, h2, h3, h4, b, h5, h6, h7, h8, h9⟩ := h
  obtain ⟨r1, r2⟩ := h7.drew.rules
  have q1 := r1 1
  have q2 := r1 2
  simp only [List.getElem?_toArray, List.getElem?_cons_zero, List.getElem?_cons_succ] at q1 q2
  have hx : ((first : Int) + X.length) - first = X.length := by omega
  clear r1 h7 h8 h9
  go_enter Try.func15, Try.ntmps15
  go_wp2_with fail
  refine hn.mono ?_; rintro e w1 ⟨rfl, rfl⟩
  clear hn
  go_wp2_with fail
  go_region
  go_wp2
  go_ret
  exact ⟨rfl, 1, rfl⟩

theorem first_ok {U : Nat → Prop} {w : World} {g most first : Nat} {X : List Slot} (h : WinR U w g most first X) (hb : (first : Int) + X.length ≤ 1000000) :
    Calls Try.prog 13 #[.pointer (some ⟨g, 0, none⟩)] w fun e w' => e = .returned (.int .i64 (if X.length = 0 then 0 else first)) ∧ ∃ m, w' = w.drewN m := by
  have hn := none_ok h
  have hl := len_ok h hb
  have h' := fun w' (e : Ext w w') => h.ext e
  by_cases h0 : X.length = 0
  · have hz : ((X.length : Int) == 0) = true := by rw [beq_iff_eq]; omega
    rw [if_pos h0]
    go_enter Try.func13, Try.ntmps13
    go_wp2_with fail
    refine hn.mono ?_; rintro e w1 ⟨rfl, rfl⟩
    go_wp2_with fail
    refine hl.mono ?_; rintro e w1 ⟨rfl, m, rfl⟩
    have x1 := ext_drewN w m
    clear hn hl
    go_wp2_with fail
    go_ret
    exact ⟨rfl, m, rfl⟩
  · have hz : ((X.length : Int) == 0) = false := by rw [beq_eq_false_iff_ne]; omega
    rw [if_neg h0]
    go_enter Try.func13, Try.ntmps13
    go_wp2_with fail
    refine hn.mono ?_; rintro e w1 ⟨rfl, rfl⟩
    go_wp2_with fail
    refine hl.mono ?_; rintro e w1 ⟨rfl, m, rfl⟩
    have x1 := ext_drewN w m
    obtain ⟨h1, h2, h3, h4, b, h5, h6, h7, h8, h9⟩ := h' _ x1
    obtain ⟨r1, r2⟩ := h7.rules
    have q1 := r1 1
    simp only [List.getElem?_toArray, List.getElem?_cons_zero, List.getElem?_cons_succ] at q1
    clear hn hl h' r1 h7 h8 h9
    go_wp2_with fail
    go_ret
    exact ⟨rfl, m, rfl⟩

theorem ready_ok {U : Nat → Prop} {w : World} {g most first : Nat} {X : List Slot} (h : WinR U w g most first X) :
    Calls Try.prog 24 #[.pointer (some ⟨g, 0, none⟩)] w fun e w' => e = .returned (.int .i64 (X.countP Option.isSome)) ∧ w = w' := by
  have hn := none_ok h
  obtain ⟨h1, h2, h3, h4, b, h5, h6, h7, h8, h9⟩ := h
  obtain ⟨r1, r2⟩ := h7.rules
  have q1 := r1 3
  simp only [List.getElem?_toArray, List.getElem?_cons_zero, List.getElem?_cons_succ] at q1
  generalize X.countP Option.isSome = cnt at *
  clear r1 h7 h9
  go_enter Try.func24, Try.ntmps24
  go_wp2_with fail
  refine hn.mono ?_; rintro e w1 ⟨rfl, rfl⟩
  clear hn
  go_wp2_with (first | ((with_reducible show wpList _ _ _ (⟨some 9, _, _, _, _, _⟩ :: _) _ _); refine wpList_map_len rfl (.tmp 8) 51 rfl 3 22 Try.underlying51 rfl h8 ?_))
  go_ret
  exact ⟨rfl, rfl⟩

theorem open_full {U : Nat → Prop} {w : World} {g most first : Nat} {X : List Slot} (h : WinR U w g most first X) (hb : (first : Int) + X.length ≤ 1000000) (hf : most ≤ X.length) :
    Calls Try.prog 11 #[.pointer (some ⟨g, 0, none⟩)] w fun e w' => e = .returned (.tuple #[.int .i64 0, .int .i64 8]) ∧ Ext w w' := by
  have hn := none_ok h
  have hl := hid (fun n => len_ok (h.drewN n) hb)
  obtain ⟨h1, h2, h3, h4, b, h5, h6, h7, h8, h9⟩ := h
  obtain ⟨r1, r2⟩ := h7.rules
  have q0 := r1 0
  simp only [List.getElem?_toArray, List.getElem?_cons_zero, List.getElem?_cons_succ] at q0
  have hge : (most : Int) ≤ X.length := by omega
  clear r1 h7 h8 h9 hf
  go_enter Try.func11, Try.ntmps11
  go_wp2_with fail
  refine hn.mono ?_; rintro e w1 ⟨rfl, rfl⟩
  clear hn
  go_wp2_with fail
  go_quiet ((go_at_call 15; exact Calls.quiet_of (hl.out _)))
  go_wp2_with fail
  go_ret2
  exact ⟨rfl, ext_drewN _ _⟩

theorem bytes_none (X : List Slot) : bytesOf (X ++ [none]) = bytesOf X ++ [none] := by simp [bytesOf]

theorem open_ok {U : Nat → Prop} {w : World} {g most first : Nat} {X : List Slot} (h : WinR U w g most first X) (hb : (first : Int) + X.length ≤ 1000000) (hf : ¬ most ≤ X.length) :
    Calls Try.prog 11 #[.pointer (some ⟨g, 0, none⟩)] w fun e w' => e = .returned (.tuple #[.int .i64 ((first : Int) + X.length), .int .i64 0]) ∧ WinR U w' g most first (X ++ [none]) ∧ w.grownBy w' (some g) := by
  have hn := none_ok h
  have hl := hid (fun n => len_ok (h.drewN n) hb)
  obtain ⟨h1, h2, h3, h4, b, h5, h6, h7, h8, h9⟩ := h
  obtain ⟨r1, r2⟩ := h7.rules
  have q0 := r1 0
  have q2 := r1 2
  simp only [List.getElem?_toArray, List.getElem?_cons_zero, List.getElem?_cons_succ] at q0 q2
  have hge : ¬ (most : Int) ≤ X.length := by omega
  have hwr : IntKind.i64.wrap ((first : Int) + X.length + 1) = (first : Int) + X.length + 1 := IntWalk.i64_in _ (by omega)
  have H7 := hid h7
  have H8 := hid h8
  have H9 := hid h9
  clear r1 h7 h8 h9 hf
  go_enter Try.func11, Try.ntmps11
  go_wp2_with fail
  refine hn.mono ?_; rintro e w1 ⟨rfl, rfl⟩
  clear hn
  go_wp2_with fail
  go_quiet ((go_at_call 15; exact Calls.quiet_of (hl.out _)))
  go_wp2_with fail
  go_ret2
  have hgr : w.grownBy ((w.drewN nq).setCell ⟨g, 2, none⟩ (.int .i64 ((first : Int) + X.length + 1))) (some g) := grown_of_set (grown_of_ext (ext_drewN w nq) _) (.inl rfl) 2 _
  refine ⟨rfl, ⟨h1, h2, h3, h4, b, h5, h6, ?_, ?_, fun x hx => ?_⟩, hgr⟩
  · have := (H7.out.drewN nq).set_ 2 (.int .i64 ((first : Int) + X.length + 1))
    have e : (X ++ [(none : Slot)]).length = X.length + 1 := by simp
    rw [e, Int.natCast_add, ← Int.add_assoc]
    exact this
  · have := H8.out.kept hgr (by simpa using fun e => h6 e.symm)
    rw [List.map_append, show List.map (Option.map sv) [(none : Slot)] = [none] from rfl, tab_open, List.countP_append]
    exact this
  · have hx' : some x ∈ X := by simpa using hx
    exact ⟨(H9.out x hx').1.grown hgr (fun _ e => by have := ((H9.out x hx').2 g e).2.1; exact this rfl), (H9.out x hx').2⟩

end Go.Proofs.Yteehicennefcbaa

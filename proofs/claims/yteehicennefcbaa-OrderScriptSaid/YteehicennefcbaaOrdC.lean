/- (*order.Window).Done. -/
import Derived.Test.YteehicennefcbaaOrdB
namespace Go.Proofs.Yteehicennefcbaa
open Go.BK Go.RowKit
set_option linter.unusedVariables false

set_option maxHeartbeats 1000000 in
theorem done_missing {U : Nat → Prop} {w : World} {g most first c : Nat} {A : Option Addr} {l : List UInt8} {X : List Slot} (n : Int) (h : WinR U w g most first X) (hb : (first : Int) + X.length ≤ 1000000) (hn : n < first ∨ (first : Int) + X.length ≤ n) :
    Calls Try.prog 12 #[.pointer (some ⟨g, 0, none⟩), .int .i64 n, .slice A l.length c] w fun e w' => e = .returned (.tuple #[.slice none 0 0, .int .i64 6]) ∧ Ext w w' := by
  have hno := none_ok h
  obtain ⟨h1, h2, h3, h4, b, h5, h6, h7, h8, h9⟩ := h
  obtain ⟨r1, r2⟩ := h7.rules
  have q1 := r1 1
  have q2 := r1 2
  simp only [List.getElem?_toArray, List.getElem?_cons_zero, List.getElem?_cons_succ] at q1 q2
  clear r1 h7 h8 h9
  by_cases hc : n < first
  · go_enter Try.func12, Try.ntmps12
    go_wp2_with fail
    refine hno.mono ?_; rintro e w1 ⟨rfl, rfl⟩
    clear hno
    go_wp2_with fail
    go_ret2
    exact ⟨rfl, ext_refl _⟩
  · have hc2 : (first : Int) + X.length ≤ n := by omega
    clear hn
    go_enter Try.func12, Try.ntmps12
    go_wp2_with fail
    refine hno.mono ?_; rintro e w1 ⟨rfl, rfl⟩
    clear hno
    go_wp2_with fail
    go_ret2
    exact ⟨rfl, ext_refl _⟩

set_option maxHeartbeats 1000000 in
theorem done_there {U : Nat → Prop} {w : World} {g most first c i : Nat} {A : Option Addr} {l : List UInt8} {X : List Slot} {x : Option Addr × Nat × List UInt8} (h : WinR U w g most first X) (hb : (first : Int) + X.length ≤ 1000000) (hx : X[i]? = some (some x)) :
    Calls Try.prog 12 #[.pointer (some ⟨g, 0, none⟩), .int .i64 ((first : Int) + i), .slice A l.length c] w fun e w' => e = .returned (.tuple #[.slice none 0 0, .int .i64 7]) ∧ Ext w w' := by
  have hno := none_ok h
  have hi : i < X.length := (List.getElem?_eq_some_iff.1 hx).1
  obtain ⟨h1, h2, h3, h4, b, h5, h6, h7, h8, h9⟩ := h
  obtain ⟨r1, r2⟩ := h7.rules
  have q1 := r1 1
  have q2 := r1 2
  have q3 := r1 3
  simp only [List.getElem?_toArray, List.getElem?_cons_zero, List.getElem?_cons_succ] at q1 q2 q3
  have hlook := h8.look keyed_int Try.underlying51 (z := .slice none 0 0) (by kernel_rfl) (key_int (a := (first : Int) + i) (by omega)) true
  rw [tab_at, List.getElem?_map, hx] at hlook
  simp only [Option.map_some, Option.join_some, Option.getD_some, Option.isSome_some, if_true] at hlook
  clear r1 h7 h8 h9 hx
  have hc1 : ¬ (first : Int) + i < first := by omega
  have hc2 : ¬ (first : Int) + X.length ≤ (first : Int) + i := by omega
  go_enter Try.func12, Try.ntmps12
  go_wp2_with fail
  refine hno.mono ?_; rintro e w1 ⟨rfl, rfl⟩
  clear hno
  go_wp2_with fail
  go_ret2
  exact ⟨rfl, ext_refl _⟩

end Go.Proofs.Yteehicennefcbaa

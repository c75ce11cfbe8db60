/- awake, and the examples: windows of a law's own. -/
import Derived.Test.YteehicennefcbaaOrdE
namespace Go.Proofs.Yteehicennefcbaa
open Go.BK Go.RowKit
set_option linter.unusedVariables false

theorem below_shy {b : Nat} {U : Nat → Prop} {w w1 w2 : World} (B : Below b w w1) (hb : b ≤ w1.heap.size) (s : Shy U w1 w2) (hU : ∀ k, U k → b ≤ k) : Below b w w2 :=
  B.trans (s.below hb fun k hk hu => by have := hU k hu; omega)

/-- A window that was made behind b0. -/
def WinO (b0 : Nat) (w : World) (g most first : Nat) (L : List (Option Bs)) : Prop := ∃ U, Win U w g most first L ∧ ∀ k, U k → b0 ≤ k
section
variable {b0 : Nat} {w w' : World} {g most first : Nat} {L : List (Option Bs)}
theorem WinO.ext (h : WinO b0 w g most first L) (e : Ext w w') : WinO b0 w' g most first L := by
  obtain ⟨U, h1, h2⟩ := h
  exact ⟨U, h1.ext e, h2⟩
theorem wino_new (most : Nat) (w : World) (h1 : 1 ≤ most) (h2 : most ≤ 64) (hb : b0 ≤ w.heap.size) :
    Calls Try.prog 10 #[.int .i64 most] w fun e w' => ∃ g, e = .returned (.tuple #[.pointer (some ⟨g, 0, none⟩), .int .i64 0]) ∧ WinO b0 w' g most 1 [] ∧ Ext w w' := by
  refine (win_new most w h1 h2).mono ?_
  rintro e w' ⟨g, rfl, h, x⟩
  exact ⟨g, rfl, ⟨_, h, fun k hk => Nat.le_trans hb hk.1⟩, x⟩
theorem wino_open (h : WinO b0 w g most first L) (hb : (first : Int) + L.length ≤ 1000000) (h0 : b0 ≤ w.heap.size) {r : Int × Int} {L' : List (Option Bs)} (hr : openS most first L = r) (hL : openL most L = L') :
    Calls Try.prog 11 #[.pointer (some ⟨g, 0, none⟩)] w fun e w' => e = .returned (.tuple #[.int .i64 r.1, .int .i64 r.2]) ∧ WinO b0 w' g most first L' ∧ Below b0 w w' := by
  subst hr; subst hL
  obtain ⟨U, h1, h2⟩ := h
  refine (win_open h1 hb).mono ?_
  rintro e w' ⟨rfl, W, s⟩
  exact ⟨rfl, ⟨U, W, h2⟩, below_shy (Below.refl _ _) h0 s h2⟩
theorem wino_done {A : Option Addr} {c : Nat} {l : Bs} (n : Int) (h : WinO b0 w g most first L) (hb : (first : Int) + L.length ≤ 1000000) (h0 : b0 ≤ w.heap.size) (hA : Rd w A c l) (hl : l.length ≤ 140737488355328)
    {O : List Bs} {er : Int} {f' : Nat} {L' : List (Option Bs)} (hO : doneOut first L n l = O) (he : doneErr first L n = er) (hf : first + O.length = f') (hL : doneL first L n l = L') {m : Nat} (hm : l.length = m) {k : Nat} (hk : O.length = k) :
    Calls Try.prog 12 #[.pointer (some ⟨g, 0, none⟩), .int .i64 n, .slice A m c] w fun e w' => ∃ A' c', e = .returned (.tuple #[.slice A' k c', .int .i64 er]) ∧
      RdL w' A' k c' O ∧ WinO b0 w' g most f' L' ∧ Below b0 w w' := by
  subst hO; subst he; subst hf; subst hL; subst hm; subst hk
  obtain ⟨U, h1, h2⟩ := h
  refine (win_done n h1 hb hA hl).mono ?_
  rintro e w' ⟨A', c', rfl, R, W, s⟩
  exact ⟨A', c', rfl, R, ⟨_, W, fun k hk => hk.elim (h2 k) fun hk => Nat.le_trans h0 hk.1⟩, below_shy (Below.refl _ _) h0 s h2⟩
theorem wino_len (h : WinO b0 w g most first L) (hb : (first : Int) + L.length ≤ 1000000) {r : Int} (hr : (L.length : Int) = r) :
    Calls Try.prog 15 #[.pointer (some ⟨g, 0, none⟩)] w fun e w' => e = .returned (.int .i64 r) ∧ ∃ m, w' = w.drewN m := by
  subst hr
  obtain ⟨U, h1, h2⟩ := h
  exact win_len h1 hb
theorem wino_first (h : WinO b0 w g most first L) (hb : (first : Int) + L.length ≤ 1000000) {r : Int} (hr : (if L.length = 0 then (0 : Int) else first) = r) :
    Calls Try.prog 13 #[.pointer (some ⟨g, 0, none⟩)] w fun e w' => e = .returned (.int .i64 r) ∧ ∃ m, w' = w.drewN m := by
  subst hr
  obtain ⟨U, h1, h2⟩ := h
  exact win_first h1 hb
theorem wino_ready (h : WinO b0 w g most first L) {r : Int} (hr : (L.countP Option.isSome : Int) = r) :
    Calls Try.prog 24 #[.pointer (some ⟨g, 0, none⟩)] w fun e w' => e = .returned (.int .i64 r) ∧ w = w' := by
  subst hr
  obtain ⟨U, h1, h2⟩ := h
  exact win_ready h1
end

theorem below_ext {b : Nat} {w w1 w2 : World} (B : Below b w w1) (hb : b ≤ w1.heap.size) (e : Ext w1 w2) : Below b w w2 := B.trans (e.mono hb)

set_option maxHeartbeats 2000000 in
theorem awake_yes (w : World) : Calls Try.prog 8 #[] w fun e w' => e = .returned (.bool true) ∧ Ext w w' := by
  go_enter Try.func8, Try.ntmps8
  go_wp2_with fail
  refine (wino_new (b0 := w.heap.size) 2 _ (by decide) (by decide) (Nat.le_refl _)).mono ?_; rintro e w1 ⟨g, rfl, W1, x1⟩
  go_wp2_with fail
  refine (wino_open (r := (1, 0)) (L' := [none]) W1 (by decide) x1.size (by decide) (by decide)).mono ?_; rintro e w2 ⟨rfl, W2, x2⟩
  have B2 := x1.trans x2
  clear W1 x1 x2
  go_wp2_with fail
  refine (wino_open (r := (2, 0)) (L' := [none, none]) W2 (by decide) B2.size (by decide) (by decide)).mono ?_; rintro e w3 ⟨rfl, W3, x3⟩
  have B3 := B2.trans x3
  clear W2 x3 B2
  go_wp2_with fail
  refine (wino_open (r := (0, 8)) (L' := [none, none]) W3 (by decide) B3.size (by decide) (by decide)).mono ?_; rintro e w4 ⟨rfl, W4, x4⟩
  have B4 := B3.trans x4
  clear W3 x4 B3
  go_wp2_with fail
  have xa := ext_alloc w4 (.cells #[.int .u8 2] 5)
  have r5 := (Own.lit_at w4 w4.heap.size [2] 5 #[.int .u8 2] rfl rfl (by simp [maxLen])).rd
  have W5 := W4.ext xa
  have B5 := below_ext B4 B4.size xa
  refine (wino_done (O := []) (er := 0) (f' := 1) (L' := [none, some [2]]) 2 W5 (by decide) B5.size r5 (by decide) (by decide) (by decide) (by decide) (by decide) rfl rfl).mono ?_; rintro e w6 ⟨A6, c6, rfl, R6, W6, x6⟩
  have B6 := B5.trans x6
  clear W4 W5 B4 B5 r5 xa x6 R6
  go_wp2_with fail
  have xa := ext_alloc w6 (.cells #[.int .u8 1] 5)
  have r7 := (Own.lit_at w6 w6.heap.size [1] 5 #[.int .u8 1] rfl rfl (by simp [maxLen])).rd
  have W7 := W6.ext xa
  have B7 := below_ext B6 B6.size xa
  refine (wino_done (O := [[1], [2]]) (er := 0) (f' := 3) (L' := []) 1 W7 (by decide) B7.size r7 (by decide) (by decide) (by decide) (by decide) (by decide) rfl rfl).mono ?_; rintro e w8 ⟨A8, c8, rfl, R8, W8, x8⟩
  have B8 := B7.trans x8
  clear W6 W7 B6 B7 r7 xa x8 W8
  simp only [List.length_cons, List.length_nil, Nat.zero_add, Nat.reduceAdd] at R8 ⊢
  go_wp2_with fail
  have hl := RdL.lit2 w8 1 2 5 22 (.int .u8 1) (.int .u8 2) rfl rfl
  have xl := ext_trans (ext_trans (ext_alloc w8 (.cells #[.int .u8 1] 5)) (ext_alloc _ (.cells #[.int .u8 2] 5))) (ext_alloc _ (.cells #[.slice (some ⟨w8.heap.size, 0, none⟩) 1 1, .slice (some ⟨w8.heap.size + 1, 0, none⟩) 1 1] 22))
  have B9 := below_ext B8 B8.size xl
  refine (same_lists (R8.ext xl) hl).mono ?_; rintro e w9 ⟨rfl, d, rfl⟩
  have B10 := below_ext B9 B9.size (ext_drewN _ d)
  clear B8 B9 xl hl R8
  rw [show (([[1], [2]] : List Bs) == [[1], [2]]) = true from by decide]
  go_wp2_with fail
  go_ret
  exact ⟨rfl, B10⟩
end Go.Proofs.Yteehicennefcbaa

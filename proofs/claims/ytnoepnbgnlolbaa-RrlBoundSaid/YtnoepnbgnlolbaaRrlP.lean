/- Layer 19: two limiters side by side: to one came many keys, to the other one of them alone. -/
import Derived.Test.YtnoepnbgnlolbaaRrlL
import Derived.Test.YtnoepnbgnlolbaaRrlN
namespace Go.Proofs.Ytnoepnbgnlolbaa
open Go.BK Go.RowKit Go.Maps
set_option linter.unusedVariables false

def okQ (n : ByteArray) (t : Int) : Prop := n.size ≤ 255 ∧ 0 ≤ t ∧ t ≤ 1099511627776
instance (n : ByteArray) (t : Int) : Decidable (okQ n t) := by unfold okQ; infer_instance
def nowX (nx t : Int) (n : ByteArray) : Int := if okQ n t then max nx t else nx
def stX (p : Par) (nx t : Int) (n : ByteArray) (s : Option (Int × Int)) : Option (Int × Int) := if okQ n t then some (stepO p (max nx t) s) else s
def cdX (p : Par) (nx t : Int) (n : ByteArray) (s : Option (Int × Int)) : Int := if okQ n t then codeS p (stepO p (max nx t) s).2 else 2

def Two (b0 : Nat) (w : World) (g h : Nat) (p q : Par) (nx ny c0 : Int) (n0 : ByteArray) (s r : Option (Int × Int)) (N : Nat) : Prop :=
  ∃ U V : Nat → Prop, AllL U w g p nx c0 n0 s N ∧ OneL V w h q ny c0 n0 r ∧ (∀ j, U j → b0 ≤ j ∧ j < w.heap.size ∧ ¬ V j) ∧ ∀ j, V j → b0 ≤ j ∧ j < w.heap.size
section
variable {b0 : Nat} {w w' : World} {g h N : Nat} {p q : Par} {nx ny c0 : Int} {n0 : ByteArray} {s r : Option (Int × Int)}
theorem Two.ext (H : Two b0 w g h p q nx ny c0 n0 s r N) (e : Ext w w') : Two b0 w' g h p q nx ny c0 n0 s r N := by
  obtain ⟨U, V, h1, h2, h3, h4⟩ := H
  have := e.size
  exact ⟨U, V, h1.ext e, h2.ext e, fun j hj => ⟨(h3 j hj).1, by have := (h3 j hj).2.1; omega, (h3 j hj).2.2⟩, fun j hj => ⟨(h4 j hj).1, by have := (h4 j hj).2; omega⟩⟩
theorem Two.more {M : Nat} (H : Two b0 w g h p q nx ny c0 n0 s r N) (hM : N ≤ M) : Two b0 w g h p q nx ny c0 n0 s r M := by
  obtain ⟨U, V, h1, h2, h3, h4⟩ := H
  exact ⟨U, V, h1.more hM, h2, h3, h4⟩
theorem two_x (c : Int) (n : ByteArray) (t : Int) (H : Two b0 w g h p q nx ny c0 n0 s r N) (h0 : b0 ≤ w.heap.size) (hc : -9223372036854775808 ≤ c ∧ c ≤ 9223372036854775807) (hN : (N : Int) < p.most) :
    Calls Try.prog 9 #[.pointer (some ⟨g, 0, none⟩), .int .i64 c, .string n, .int .i64 t] w fun e w' => ∃ code s', e = .returned (.int .i64 code) ∧ Two b0 w' g h p q (nowX nx t n) ny c0 n0 s' r (N + 1) ∧ Below b0 w w' ∧
      (c = c0 ∧ n = n0 → code = cdX p nx t n s ∧ s' = stX p nx t n s) ∧ (¬ (c = c0 ∧ n = n0) → s' = s) := by
  unfold nowX cdX stX
  obtain ⟨U, V, h1, h2, h3, h4⟩ := H
  by_cases hv : okQ n t
  · simp only [if_pos hv]
    refine (all_step (U := fun j => U j ∨ w.heap.size ≤ j) c n t _ (h1.mono fun j _ hj => .inl hj) ⟨hc, hv.1⟩ (fun j hj => .inr hj) hN hv.2 rfl).mono ?_
    rintro e w' ⟨code, s', rfl, ha, hs, k1, k2⟩
    have hsz := hs.size
    refine ⟨code, s', rfl, ⟨fun j => U j ∨ (w.heap.size ≤ j ∧ j < w'.heap.size), V, ha.mono fun j hj hu => hu.imp id fun hu => ⟨hu, hj⟩, h2.shy hs (fun j hj hu => ?_), fun j hj => ?_, fun j hj => ⟨(h4 j hj).1, by have := (h4 j hj).2; omega⟩⟩, ?_, k1, k2⟩
    · rcases hu with hu | hu
      · exact (h3 j hu).2.2 hj
      · have := (h4 j hj).2; omega
    · rcases hj with hj | hj
      · exact ⟨(h3 j hj).1, by have := (h3 j hj).2.1; omega, (h3 j hj).2.2⟩
      · exact ⟨by omega, hj.2, fun hv => by have := (h4 j hv).2; omega⟩
    · exact hs.below h0 fun j hj hu => by
        rcases hu with hu | hu
        · have := (h3 j hu).1; omega
        · omega
  · simp only [if_neg hv]
    refine (all_drop c n t h1 hv).mono ?_
    rintro e w' ⟨rfl, rfl⟩
    exact ⟨2, s, rfl, ⟨U, V, h1.more (Nat.le_succ _), h2, h3, h4⟩, Below.refl _ _, fun _ => ⟨rfl, rfl⟩, fun _ => rfl⟩
theorem two_y (t : Int) (H : Two b0 w g h p q nx ny c0 n0 s r N) (h0 : b0 ≤ w.heap.size) (hc : -9223372036854775808 ≤ c0 ∧ c0 ≤ 9223372036854775807) :
    Calls Try.prog 9 #[.pointer (some ⟨h, 0, none⟩), .int .i64 c0, .string n0, .int .i64 t] w fun e w' => e = .returned (.int .i64 (cdX q ny t n0 r)) ∧ Two b0 w' g h p q nx (nowX ny t n0) c0 n0 s (stX q ny t n0 r) N ∧ Below b0 w w' := by
  unfold nowX cdX stX
  obtain ⟨U, V, h1, h2, h3, h4⟩ := H
  by_cases hv : okQ n0 t
  · simp only [if_pos hv]
    refine (one_step (U := fun j => V j ∨ w.heap.size ≤ j) t _ (h2.mono fun j _ hj => .inl hj) ⟨hc, hv.1⟩ (fun j hj => .inr hj) hv.2 rfl).mono ?_
    rintro e w' ⟨rfl, ha, hs⟩
    have hsz := hs.size
    refine ⟨rfl, ⟨U, fun j => V j ∨ (w.heap.size ≤ j ∧ j < w'.heap.size), h1.shy hs (fun j hj hu => ?_), ha.mono fun j hj hu => hu.imp id fun hu => ⟨hu, hj⟩, fun j hj => ⟨(h3 j hj).1, by have := (h3 j hj).2.1; omega, fun hv => ?_⟩, fun j hj => ?_⟩, ?_⟩
    · rcases hu with hu | hu
      · exact (h3 j hj).2.2 hu
      · have := (h3 j hj).2.1; omega
    · rcases hv with hv | hv
      · exact (h3 j hj).2.2 hv
      · have := (h3 j hj).2.1; omega
    · rcases hj with hj | hj
      · exact ⟨(h4 j hj).1, by have := (h4 j hj).2; omega⟩
      · exact ⟨by omega, hj.2⟩
    · exact hs.below h0 fun j hj hu => by
        rcases hu with hu | hu
        · have := (h4 j hu).1; omega
        · omega
  · simp only [if_neg hv]
    refine (one_drop c0 n0 t h2 hv).mono ?_
    rintro e w' ⟨rfl, rfl⟩
    exact ⟨rfl, ⟨U, V, h1, h2, h3, h4⟩, Below.refl _ _⟩
theorem two_xcount (H : Two b0 w g h p q nx ny c0 n0 s r N) (hc : -9223372036854775808 ≤ c0 ∧ c0 ≤ 9223372036854775807) (hn : n0.size ≤ maxLen) :
    Calls Try.prog 11 #[.pointer (some ⟨g, 0, none⟩), .int .i64 c0, .string n0] w fun e w' => e = .returned (.int .i64 (cntO s)) ∧ w = w' := by
  obtain ⟨U, V, h1, h2, h3, h4⟩ := H
  exact all_count h1 hc hn
theorem OneL.all {V : Nat → Prop} (H : OneL V w h q ny c0 n0 r) : AllL V w h q ny c0 n0 r 1 := by
  obtain ⟨mb, A, cc, P, hl, hu, hp⟩ := H
  rcases hp with ⟨rfl, rfl⟩ | ⟨b, k, tb, rfl, rfl⟩
  · exact ⟨mb, A, cc, _, hl, hu, rfl, by simp⟩
  · exact ⟨mb, A, cc, _, hl, hu, look_hit (P1 := []) (by simp) ⟨rfl, rfl⟩, by simp⟩
theorem two_ycount (H : Two b0 w g h p q nx ny c0 n0 s r N) (hc : -9223372036854775808 ≤ c0 ∧ c0 ≤ 9223372036854775807) (hn : n0.size ≤ maxLen) :
    Calls Try.prog 11 #[.pointer (some ⟨h, 0, none⟩), .int .i64 c0, .string n0] w fun e w' => e = .returned (.int .i64 (cntO r)) ∧ w = w' := by
  obtain ⟨U, V, h1, h2, h3, h4⟩ := H
  exact all_count h2.all hc hn
end
end Go.Proofs.Ytnoepnbgnlolbaa

/- Layer 19: a limiter to which one key alone came. -/
import Derived.Test.YtnoepnbgnlolbaaRrlH
import Derived.Test.YtnoepnbgnlolbaaRrlI
namespace Go.Proofs.Ytnoepnbgnlolbaa
open Go.BK Go.RowKit Go.Maps
set_option linter.unusedVariables false
def OneL (U : Nat → Prop) (w : World) (g : Nat) (p : Par) (now : Int) (c : Int) (n : ByteArray) (s : Option (Int × Int)) : Prop :=
  ∃ mb A cc P, LimB w g mb A cc p now P ∧ (∀ j, ownsR g mb A P j → U j) ∧ (s = none ∧ P = [] ∨ ∃ b k tb, s = some (b, k) ∧ P = [(⟨c, n, b, k⟩, tb)])
def stepO (p : Par) (t : Int) : Option (Int × Int) → Int × Int
  | none => (t, 1)
  | some (b, k) => (bumpB p t b, bumpK p t b k)
theorem OneL.shy {U V : Nat → Prop} {w w' : World} {g : Nat} {p : Par} {now c : Int} {n : ByteArray} {s : Option (Int × Int)} (h : OneL U w g p now c n s) (hs : Shy V w w') (hV : ∀ j, U j → ¬ V j) : OneL U w' g p now c n s := by
  obtain ⟨mb, A, cc, P, hl, hu, hp⟩ := h
  exact ⟨mb, A, cc, P, hl.shy hs (fun j hj => hV j (hu j hj)), hu, hp⟩
theorem OneL.ext {U : Nat → Prop} {w w' : World} {g : Nat} {p : Par} {now c : Int} {n : ByteArray} {s : Option (Int × Int)} (h : OneL U w g p now c n s) (hs : Ext w w') : OneL U w' g p now c n s :=
  h.shy (V := fun _ => False) (Shy.of_ext hs) fun _ _ h => h
theorem OneL.mono {U V : Nat → Prop} {w : World} {g : Nat} {p : Par} {now c : Int} {n : ByteArray} {s : Option (Int × Int)} (h : OneL U w g p now c n s) (hV : ∀ j, j < w.heap.size → U j → V j) : OneL V w g p now c n s := by
  obtain ⟨mb, A, cc, P, hl, hu, hp⟩ := h
  exact ⟨mb, A, cc, P, hl, fun j hj => hV j (hl.lt j hj) (hu j hj), hp⟩
theorem one_new (a b c d : Int) (w : World) (k : Int) (n : ByteArray) (h : Par.ok ⟨a, b, c, d⟩) :
    Calls Try.prog 12 #[.int .i64 a, .int .i64 b, .int .i64 c, .int .i64 d] w fun e w' => ∃ g, e = .returned (.tuple #[.pointer (some ⟨g, 0, none⟩), .int .i64 0]) ∧ OneL (fun j => w.heap.size ≤ j ∧ j < w'.heap.size) w' g ⟨a, b, c, d⟩ 0 k n none ∧ Ext w w' := by
  refine (new_ok ⟨a, b, c, d⟩ w h).mono ?_
  rintro e w' ⟨g, mb, rfl, hl, h1, h2, x⟩
  refine ⟨g, rfl, ⟨mb, none, 0, [], hl, fun j hj => ⟨?_, hl.lt j hj⟩, .inl ⟨rfl, rfl⟩⟩, x⟩
  rcases hj with rfl | rfl | hj | ⟨r, hr, _⟩
  · exact h1
  · exact h2
  · cases hj
  · cases hr
theorem one_step {U : Nat → Prop} {w : World} {g : Nat} {p : Par} {now c : Int} {n : ByteArray} {s : Option (Int × Int)} (t m : Int) (h : OneL U w g p now c n s) (hk : wfK c n) (hU : ∀ j, w.heap.size ≤ j → U j) (ht : 0 ≤ t ∧ t ≤ 1099511627776) (hm : max now t = m) :
    Calls Try.prog 9 #[.pointer (some ⟨g, 0, none⟩), .int .i64 c, .string n, .int .i64 t] w fun e w' => e = .returned (.int .i64 (codeS p (stepO p m s).2)) ∧ OneL U w' g p m c n (some (stepO p m s)) ∧ Shy U w w' := by
  subst hm
  obtain ⟨mb, A, cc, P, hl, hu, hp⟩ := h
  rcases hp with ⟨rfl, rfl⟩ | ⟨b, k, tb, rfl, rfl⟩
  · refine (judge_new c n t hl hk (by simp) (by have := hl.2.2.2.2.1.1; simp; omega) ht).mono ?_
    rintro e w' ⟨he, A', cc', tb, hl', htb, hA', hs⟩
    refine ⟨he, ⟨mb, A', cc', _, hl', fun j hj => ?_, .inr ⟨_, _, tb, rfl, rfl⟩⟩, hs.mono fun j _ hj => ?_⟩
    · rcases hj with rfl | rfl | hj | ⟨r, hr, rfl⟩
      · exact hu _ (.inl rfl)
      · exact hu _ (.inr (.inl rfl))
      · rcases hA' j hj with h | h
        · exact hu _ (.inr (.inr (.inl h)))
        · exact hU j h
      · simp at hr; subst hr; exact hU _ htb
    · rcases hj with rfl | rfl | hj
      · exact hu _ (.inl rfl)
      · exact hu _ (.inr (.inl rfl))
      · exact hu _ (.inr (.inr (.inl hj)))
  · refine (judge_found (P1 := []) (P2 := []) (⟨c, n, b, k⟩, tb) t hl ht).mono ?_
    rintro e w' ⟨he, hl', hs⟩
    refine ⟨he, ⟨mb, A, cc, _, hl', fun j hj => ?_, .inr ⟨_, _, tb, rfl, rfl⟩⟩, hs.mono fun j _ hj => ?_⟩
    · rcases hj with rfl | rfl | hj | ⟨r, hr, rfl⟩
      · exact hu _ (.inl rfl)
      · exact hu _ (.inr (.inl rfl))
      · exact hu _ (.inr (.inr (.inl hj)))
      · simp at hr; subst hr; exact hu _ (.inr (.inr (.inr ⟨_, List.mem_singleton.2 rfl, rfl⟩)))
    · rcases hj with rfl | rfl
      · exact hu _ (.inl rfl)
      · exact hu _ (.inr (.inr (.inr ⟨_, List.mem_singleton.2 rfl, rfl⟩)))
theorem one_len {U : Nat → Prop} {w : World} {g : Nat} {p : Par} {now c : Int} {n : ByteArray} {s : Int × Int} (h : OneL U w g p now c n (some s)) :
    Calls Try.prog 10 #[.pointer (some ⟨g, 0, none⟩)] w fun e w' => e = .returned (.int .i64 1) ∧ w = w' := by
  obtain ⟨mb, A, cc, P, hl, hu, hp⟩ := h
  rcases hp with ⟨h, _⟩ | ⟨b, k, tb, _, rfl⟩
  · cases h
  · exact len_any hl
theorem one_count {U : Nat → Prop} {w : World} {g : Nat} {p : Par} {now c : Int} {n : ByteArray} {b k : Int} (h : OneL U w g p now c n (some (b, k))) :
    Calls Try.prog 11 #[.pointer (some ⟨g, 0, none⟩), .int .i64 c, .string n] w fun e w' => e = .returned (.int .i64 k) ∧ w = w' := by
  obtain ⟨mb, A, cc, P, hl, hu, hp⟩ := h
  rcases hp with ⟨h, _⟩ | ⟨b', k', tb, e, rfl⟩
  · cases h
  · injection e with e; injection e with e1 e2; subst e1; subst e2
    exact count_yes (P1 := []) (P2 := []) (⟨c, n, b, k⟩, tb) hl
end Go.Proofs.Ytnoepnbgnlolbaa

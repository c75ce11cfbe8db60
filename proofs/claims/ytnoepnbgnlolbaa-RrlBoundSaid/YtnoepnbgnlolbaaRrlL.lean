/- Layer 19: a limiter to which many keys came; what one of them sees. -/
import Derived.Test.YtnoepnbgnlolbaaRrlJ
namespace Go.Proofs.Ytnoepnbgnlolbaa
open Go.BK Go.RowKit Go.Maps
set_option linter.unusedVariables false

set_option maxHeartbeats 1000000 in
set_option maxRecDepth 100000 in
/-- What is not judged: a name that is too long, or a time that may not be. -/
theorem judge_drop {w : World} {g mb : Nat} {A : Option Addr} {cc : Nat} {p : Par} {now : Int} {P : List Row} (c : Int) (n : ByteArray) (t : Int) (h : LimB w g mb A cc p now P) (hd : ¬ (n.size ≤ 255 ∧ 0 ≤ t ∧ t ≤ 1099511627776)) :
    Calls Try.prog 9 #[.pointer (some ⟨g, 0, none⟩), .int .i64 c, .string n, .int .i64 t] w fun e w' => e = .returned (.int .i64 2) ∧ w = w' := by
  obtain ⟨c0, _, _, _, c4, _, _, cf⟩ := h.cells
  have hp1 := h.2.2.2.2.1.1
  have q1 : (p.most == 0) = false := by simp; omega
  clear h c4 cf
  by_cases h1 : (255 : Int) < (n.size : Int)
  · have q2 : decide ((255 : Int) < (n.size : Int)) = true := by simp; omega
    clear hd h1
    go_enter Try.func9, Try.ntmps9
    go_wp2
    go_ret
    exact ⟨rfl, rfl⟩
  have q2 : decide ((255 : Int) < (n.size : Int)) = false := by simp; omega
  by_cases h2 : t < 0
  · have q3 : decide (t < 0) = true := by simp; omega
    clear hd h1 h2
    go_enter Try.func9, Try.ntmps9
    go_wp2
    go_ret
    exact ⟨rfl, rfl⟩
  have q3 : decide (t < 0) = false := by simp; omega
  have q4 : decide ((1099511627776 : Int) < t) = true := by simp; omega
  clear hd h1 h2
  go_enter Try.func9, Try.ntmps9
  go_wp2
  go_ret
  exact ⟨rfl, rfl⟩

set_option maxHeartbeats 1000000 in
theorem count_none {w : World} {g mb : Nat} {A : Option Addr} {cc : Nat} {p : Par} {now : Int} {P : List Row} (c : Int) (n : ByteArray) (h : LimB w g mb A cc p now P) (hc : -9223372036854775808 ≤ c ∧ c ≤ 9223372036854775807) (hn : n.size ≤ maxLen) (hno : ∀ r ∈ P, ¬ r.is c n) :
    Calls Try.prog 11 #[.pointer (some ⟨g, 0, none⟩), .int .i64 c, .string n] w fun e w' => e = .returned (.int .i64 0) ∧ w = w' := by
  obtain ⟨_, _, _, _, _, c5, _, cf⟩ := h.cells
  obtain ⟨l, hkl⟩ := key_mk c n hc hn
  have hl := h.2.1.look (t := 24) keyed Try.underlying24 (zero_ptr w) hkl true
  have hwf := h.2.2.2.2.2.2.2.2.1
  have ht : tabR P l = none := by
    unfold tabR
    rw [List.find?_eq_none.2]
    · rfl
    · intro s hs e
      have e := hitR_iff.1 e
      have := keyed.inj (kl_key (hwf s hs).1) (e ▸ hkl)
      unfold kv at this
      exact hno s hs (show _ ∧ _ by simpa using this)
  rw [ht] at hl
  unfold kv at hl
  simp only [Option.getD_none, Option.isSome_none, if_true] at hl
  clear h hkl hwf ht hno
  go_enter Try.func11, Try.ntmps11
  go_wp2
  go_ret
  exact ⟨rfl, rfl⟩

def look (P : List Row) (c : Int) (n : ByteArray) : Option (Int × Int) := (P.find? fun r => decide (r.is c n)).map fun r => (r.1.b, r.1.k)
theorem look_none {P : List Row} {c : Int} {n : ByteArray} (h : ∀ r ∈ P, ¬ r.is c n) : look P c n = none := by
  unfold look
  rw [List.find?_eq_none.2 (fun r hr => by simpa using h r hr)]; rfl
theorem look_hit {P1 P2 : List Row} {r : Row} {c : Int} {n : ByteArray} (h : ∀ x ∈ P1, ¬ x.is c n) (hr : r.is c n) : look (P1 ++ r :: P2) c n = some (r.1.b, r.1.k) := by
  unfold look
  rw [List.find?_append, List.find?_eq_none.2 (fun r hr => by simpa using h r hr), List.find?_cons, decide_eq_true hr]; rfl
theorem look_mid {P1 P2 : List Row} {r s : Row} {c : Int} {n : ByteArray} (h1 : s.1.c = r.1.c) (h2 : s.1.n = r.1.n) (hr : ¬ r.is c n) : look (P1 ++ s :: P2) c n = look (P1 ++ r :: P2) c n := by
  have hs : ¬ s.is c n := by unfold Row.is at hr ⊢; rw [h1, h2]; exact hr
  unfold look
  rw [List.find?_append, List.find?_append, List.find?_cons, List.find?_cons, decide_eq_false hr, decide_eq_false hs]
theorem look_end {P : List Row} {r : Row} {c : Int} {n : ByteArray} (hr : ¬ r.is c n) : look (P ++ [r]) c n = look P c n := by
  unfold look
  rw [List.find?_append, List.find?_cons, decide_eq_false hr]
  simp

/-- A limiter whose key (c0, n0) stands as s tells; at most N keys. -/
def AllL (U : Nat → Prop) (w : World) (g : Nat) (p : Par) (now : Int) (c0 : Int) (n0 : ByteArray) (s : Option (Int × Int)) (N : Nat) : Prop :=
  ∃ mb A cc P, LimB w g mb A cc p now P ∧ (∀ j, ownsR g mb A P j → U j) ∧ look P c0 n0 = s ∧ P.length ≤ N
section
variable {U V : Nat → Prop} {w w' : World} {g N : Nat} {p : Par} {now c0 : Int} {n0 : ByteArray} {s : Option (Int × Int)}
theorem AllL.shy (h : AllL U w g p now c0 n0 s N) (hs : Shy V w w') (hV : ∀ j, U j → ¬ V j) : AllL U w' g p now c0 n0 s N := by
  obtain ⟨mb, A, cc, P, hl, hu, hp⟩ := h
  exact ⟨mb, A, cc, P, hl.shy hs (fun j hj => hV j (hu j hj)), hu, hp⟩
theorem AllL.ext (h : AllL U w g p now c0 n0 s N) (hs : Ext w w') : AllL U w' g p now c0 n0 s N := h.shy (V := fun _ => False) (Shy.of_ext hs) fun _ _ h => h
theorem AllL.mono (h : AllL U w g p now c0 n0 s N) (hV : ∀ j, j < w.heap.size → U j → V j) : AllL V w g p now c0 n0 s N := by
  obtain ⟨mb, A, cc, P, hl, hu, hp⟩ := h
  exact ⟨mb, A, cc, P, hl, fun j hj => hV j (hl.lt j hj) (hu j hj), hp⟩
theorem AllL.more {M : Nat} (h : AllL U w g p now c0 n0 s N) (hM : N ≤ M) : AllL U w g p now c0 n0 s M := by
  obtain ⟨mb, A, cc, P, hl, hu, hp, hn⟩ := h
  exact ⟨mb, A, cc, P, hl, hu, hp, Nat.le_trans hn hM⟩
theorem all_new (a b c d : Int) (w : World) (k : Int) (n : ByteArray) (h : Par.ok ⟨a, b, c, d⟩) :
    Calls Try.prog 12 #[.int .i64 a, .int .i64 b, .int .i64 c, .int .i64 d] w fun e w' => ∃ g, e = .returned (.tuple #[.pointer (some ⟨g, 0, none⟩), .int .i64 0]) ∧ AllL (fun j => w.heap.size ≤ j ∧ j < w'.heap.size) w' g ⟨a, b, c, d⟩ 0 k n none 0 ∧ Ext w w' := by
  refine (new_ok ⟨a, b, c, d⟩ w h).mono ?_
  rintro e w' ⟨g, mb, rfl, hl, h1, h2, x⟩
  refine ⟨g, rfl, ⟨mb, none, 0, [], hl, fun j hj => ⟨?_, hl.lt j hj⟩, rfl, Nat.le_refl _⟩, x⟩
  rcases hj with rfl | rfl | hj | ⟨r, hr, _⟩
  · exact h1
  · exact h2
  · cases hj
  · cases hr
theorem all_drop (c : Int) (n : ByteArray) (t : Int) (h : AllL U w g p now c0 n0 s N) (hd : ¬ (n.size ≤ 255 ∧ 0 ≤ t ∧ t ≤ 1099511627776)) :
    Calls Try.prog 9 #[.pointer (some ⟨g, 0, none⟩), .int .i64 c, .string n, .int .i64 t] w fun e w' => e = .returned (.int .i64 2) ∧ w = w' := by
  obtain ⟨mb, A, cc, P, hl, hu, hp⟩ := h
  exact judge_drop c n t hl hd
theorem one_drop (c : Int) (n : ByteArray) (t : Int) (h : OneL U w g p now c0 n0 s) (hd : ¬ (n.size ≤ 255 ∧ 0 ≤ t ∧ t ≤ 1099511627776)) :
    Calls Try.prog 9 #[.pointer (some ⟨g, 0, none⟩), .int .i64 c, .string n, .int .i64 t] w fun e w' => e = .returned (.int .i64 2) ∧ w = w' := by
  obtain ⟨mb, A, cc, P, hl, hu, hp⟩ := h
  exact judge_drop c n t hl hd
def cntO (s : Option (Int × Int)) : Int := match s with | none => 0 | some (_, k) => k
theorem all_count (h : AllL U w g p now c0 n0 s N) (hc : -9223372036854775808 ≤ c0 ∧ c0 ≤ 9223372036854775807) (hn : n0.size ≤ maxLen) :
    Calls Try.prog 11 #[.pointer (some ⟨g, 0, none⟩), .int .i64 c0, .string n0] w fun e w' => e = .returned (.int .i64 (cntO s)) ∧ w = w' := by
  obtain ⟨mb, A, cc, P, hl, hu, rfl, _⟩ := h
  by_cases hno : ∀ r ∈ P, ¬ r.is c0 n0
  · rw [look_none hno]
    exact count_none c0 n0 hl hc hn hno
  · simp only [Classical.not_forall, Classical.not_not] at hno
    obtain ⟨r, hr, hi⟩ := hno
    obtain ⟨P1, P2, rfl⟩ := List.append_of_mem hr
    have hd := hl.2.2.2.2.2.2.2.2.2.1
    have h1 : ∀ x ∈ P1, ¬ x.is c0 n0 := fun x hx => by
      rw [List.pairwise_append] at hd
      have := hd.2.2 x hx r (by simp)
      rw [hi.1, hi.2] at this
      exact this
    rw [look_hit h1 hi]
    obtain ⟨rfl, rfl⟩ := hi
    exact count_yes r hl
theorem all_step (c : Int) (n : ByteArray) (t m : Int) (h : AllL U w g p now c0 n0 s N) (hk : wfK c n) (hU : ∀ j, w.heap.size ≤ j → U j) (hN : (N : Int) < p.most) (ht : 0 ≤ t ∧ t ≤ 1099511627776) (hm : max now t = m) :
    Calls Try.prog 9 #[.pointer (some ⟨g, 0, none⟩), .int .i64 c, .string n, .int .i64 t] w fun e w' => ∃ code s', e = .returned (.int .i64 code) ∧ AllL U w' g p m c0 n0 s' (N + 1) ∧ Shy U w w' ∧
      (c = c0 ∧ n = n0 → code = codeS p (stepO p m s).2 ∧ s' = some (stepO p m s)) ∧ (¬ (c = c0 ∧ n = n0) → s' = s) := by
  subst hm
  obtain ⟨mb, A, cc, P, hl, hu, rfl, hlen⟩ := h
  by_cases hno : ∀ r ∈ P, ¬ r.is c n
  · refine (judge_new c n t hl hk hno (by omega) ht).mono ?_
    rintro e w' ⟨he, A', cc', tb, hl', htb, hA', hs⟩
    refine ⟨_, _, he, ⟨mb, A', cc', _, hl', fun j hj => ?_, rfl, by simp; omega⟩, hs.mono fun j _ hj => ?_, fun h => ?_, fun h => look_end (fun hr => h hr)⟩
    · rcases hj with rfl | rfl | hj | ⟨r, hr, rfl⟩
      · exact hu _ (.inl rfl)
      · exact hu _ (.inr (.inl rfl))
      · rcases hA' j hj with h | h
        · exact hu _ (.inr (.inr (.inl h)))
        · exact hU j h
      · rcases List.mem_append.1 hr with hr | hr
        · exact hu _ (.inr (.inr (.inr ⟨r, hr, rfl⟩)))
        · simp at hr; subst hr; exact hU _ htb
    · rcases hj with rfl | rfl | hj
      · exact hu _ (.inl rfl)
      · exact hu _ (.inr (.inl rfl))
      · exact hu _ (.inr (.inr (.inl hj)))
    · obtain ⟨rfl, rfl⟩ := h
      rw [look_none hno]
      exact ⟨rfl, look_hit hno ⟨rfl, rfl⟩⟩
  · simp only [Classical.not_forall, Classical.not_not] at hno
    obtain ⟨r, hr, hi⟩ := hno
    obtain ⟨P1, P2, rfl⟩ := List.append_of_mem hr
    have hd := hl.2.2.2.2.2.2.2.2.2.1
    have h1 : ∀ x ∈ P1, ¬ x.is c n := fun x hx => by
      rw [List.pairwise_append] at hd
      have := hd.2.2 x hx r (by simp)
      rw [hi.1, hi.2] at this
      exact this
    obtain ⟨rfl, rfl⟩ := hi
    refine (judge_found r t hl ht).mono ?_
    rintro e w' ⟨he, hl', hs⟩
    refine ⟨_, _, he, ⟨mb, A, cc, _, hl', fun j hj => ?_, rfl, by simp at hlen ⊢; omega⟩, hs.mono fun j _ hj => ?_, fun h => ?_, fun h => look_mid rfl rfl (fun hr => h hr)⟩
    · rcases hj with rfl | rfl | hj | ⟨x, hx, rfl⟩
      · exact hu _ (.inl rfl)
      · exact hu _ (.inr (.inl rfl))
      · exact hu _ (.inr (.inr (.inl hj)))
      · rw [List.mem_append, List.mem_cons] at hx
        rcases hx with hx | rfl | hx
        · exact hu _ (.inr (.inr (.inr ⟨x, by simp [hx], rfl⟩)))
        · exact hu _ (.inr (.inr (.inr ⟨r, by simp, rfl⟩)))
        · exact hu _ (.inr (.inr (.inr ⟨x, by simp [hx], rfl⟩)))
    · rcases hj with rfl | rfl
      · exact hu _ (.inl rfl)
      · exact hu _ (.inr (.inr (.inr ⟨r, by simp, rfl⟩)))
    · obtain ⟨rfl, rfl⟩ := h
      rw [look_hit h1 ⟨rfl, rfl⟩]
      exact ⟨rfl, look_hit h1 ⟨rfl, rfl⟩⟩
end
end Go.Proofs.Ytnoepnbgnlolbaa

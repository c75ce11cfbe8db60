/- Layer 19: a limiter of any keys; RrlKnown. -/
import Derived.Test.YtnoepnbgnlolbaaRrlU
import Derived.Test.YtnoepnbgnlolbaaRrlN
namespace Go.Proofs.Ytnoepnbgnlolbaa
open Go.BK Go.RowKit Go.Maps
set_option linter.unusedVariables false
def hitE (c : Int) (n : ByteArray) (e : Ent) : Bool := decide (e.c = c ∧ e.n = n)
def bumpE (p : Par) (T : Int) (e : Ent) : Ent := ⟨e.c, e.n, bumpB p T e.b, bumpK p T e.b e.k⟩
def goesE (p : Par) (now : Int) (E : List Ent) : Nat → Option Nat
  | 0 => none
  | k + 1 => match E[k]? with
    | none => goesE p now E k
    | some r => if overB p now r.b = true then (match goesE p now E k with
        | none => some k
        | some j => match E[j]? with
          | none => some j
          | some s => if r.b < s.b then some k else some j) else goesE p now E k
theorem goes_fst (p : Par) (now : Int) (P : List Row) : ∀ k, goesK p now P k = goesE p now (P.map Prod.fst) k := by
  intro k
  induction k with
  | zero => rfl
  | succ k ih =>
    unfold goesK goesE
    rw [ih, List.getElem?_map]
    rcases P[k]? with _ | r
    · rfl
    · simp only [Option.map_some]
      split
      · rcases goesE p now (P.map Prod.fst) k with _ | j
        · rfl
        · simp only [List.getElem?_map]
          rcases P[j]? with _ | s <;> rfl
      · rfl
def stepE (p : Par) (T : Int) (c : Int) (n : ByteArray) (E : List Ent) : List Ent × Int :=
  match E.find? (hitE c n) with
  | some e => (E.map (fun x => if hitE c n x = true then bumpE p T x else x), codeS p (bumpE p T e).k)
  | none => if (E.length : Int) < p.most then (E ++ [⟨c, n, T, 1⟩], codeS p 1) else match goesE p T E E.length with
    | none => (E, 2)
    | some i => (E.eraseIdx i ++ [⟨c, n, T, 1⟩], codeS p 1)
def AnyL (U : Nat → Prop) (w : World) (g : Nat) (p : Par) (now : Int) (E : List Ent) : Prop :=
  ∃ mb A cc P, LimB w g mb A cc p now P ∧ (∀ j, ownsR g mb A P j → U j) ∧ P.map Prod.fst = E
theorem AnyL.shy {U V : Nat → Prop} {w w' : World} {g : Nat} {p : Par} {now : Int} {E : List Ent} (h : AnyL U w g p now E) (hs : Shy V w w') (hV : ∀ j, U j → ¬ V j) : AnyL U w' g p now E := by
  obtain ⟨mb, A, cc, P, hl, hu, hp⟩ := h
  exact ⟨mb, A, cc, P, hl.shy hs (fun j hj => hV j (hu j hj)), hu, hp⟩
theorem AnyL.ext {U : Nat → Prop} {w w' : World} {g : Nat} {p : Par} {now : Int} {E : List Ent} (h : AnyL U w g p now E) (hs : Ext w w') : AnyL U w' g p now E :=
  h.shy (V := fun _ => False) (Shy.of_ext hs) fun _ _ h => h
theorem AnyL.mono {U V : Nat → Prop} {w : World} {g : Nat} {p : Par} {now : Int} {E : List Ent} (h : AnyL U w g p now E) (hV : ∀ j, j < w.heap.size → U j → V j) : AnyL V w g p now E := by
  obtain ⟨mb, A, cc, P, hl, hu, hp⟩ := h
  exact ⟨mb, A, cc, P, hl, fun j hj => hV j (hl.lt j hj) (hu j hj), hp⟩
theorem any_new (a b c d : Int) (w : World) (h : Par.ok ⟨a, b, c, d⟩) :
    Calls Try.prog 12 #[.int .i64 a, .int .i64 b, .int .i64 c, .int .i64 d] w fun e w' => ∃ g, e = .returned (.tuple #[.pointer (some ⟨g, 0, none⟩), .int .i64 0]) ∧ AnyL (fun j => w.heap.size ≤ j ∧ j < w'.heap.size) w' g ⟨a, b, c, d⟩ 0 [] ∧ Ext w w' := by
  refine (new_ok ⟨a, b, c, d⟩ w h).mono ?_
  rintro e w' ⟨g, mb, rfl, hl, h1, h2, x⟩
  refine ⟨g, rfl, ⟨mb, none, 0, [], hl, fun j hj => ⟨?_, hl.lt j hj⟩, rfl⟩, x⟩
  rcases hj with rfl | rfl | hj | ⟨r, hr, _⟩
  · exact h1
  · exact h2
  · cases hj
  · cases hr
theorem hit_fst {c : Int} {n : ByteArray} {r : Row} : hitE c n r.1 = true ↔ r.is c n := by unfold hitE Row.is; simp
theorem map_one {p : Par} {T c : Int} {n : ByteArray} : ∀ {P : List Row}, (∀ r ∈ P, ¬ r.is c n) → (P.map Prod.fst).map (fun x => if hitE c n x = true then bumpE p T x else x) = P.map Prod.fst := by
  intro P h
  rw [List.map_map]
  apply List.map_congr_left
  intro r hr
  have : ¬ hitE c n r.1 = true := fun e => h r hr (hit_fst.1 e)
  simp only [Function.comp]
  rw [if_neg this]
theorem any_found {P : List Row} {c : Int} {n : ByteArray} : (∃ r ∈ P, r.is c n) → P.Pairwise (fun r s => ¬ r.is s.1.c s.1.n) → ∃ P1 r P2, P = P1 ++ r :: P2 ∧ r.1.c = c ∧ r.1.n = n ∧ (∀ s ∈ P1, ¬ s.is c n) ∧ ∀ s ∈ P2, ¬ s.is c n := by
  rintro ⟨r, hr, hc, hn⟩ hd
  obtain ⟨P1, P2, rfl⟩ := List.append_of_mem hr
  rw [List.pairwise_append, List.pairwise_cons] at hd
  refine ⟨P1, r, P2, rfl, hc, hn, fun s hs => ?_, fun s hs h => ?_⟩
  · have := hd.2.2 s hs r (by simp)
    rwa [hc, hn] at this
  · exact hd.2.1.1 s hs ⟨hc.trans h.1.symm, hn.trans h.2.symm⟩
theorem find_none {P : List Row} {c : Int} {n : ByteArray} (h : ∀ r ∈ P, ¬ r.is c n) : (P.map Prod.fst).find? (hitE c n) = none := by
  rw [List.find?_eq_none]
  intro e he
  obtain ⟨r, hr, rfl⟩ := List.mem_map.1 he
  exact fun h2 => h r hr (hit_fst.1 h2)
theorem find_some' {P1 P2 : List Row} {r : Row} {c : Int} {n : ByteArray} (h : ∀ r ∈ P1, ¬ r.is c n) (hr : r.is c n) : ((P1 ++ r :: P2).map Prod.fst).find? (hitE c n) = some r.1 := by
  rw [List.map_append, List.find?_append, find_none h, List.map_cons, List.find?_cons, hit_fst.2 hr]; rfl
theorem any_step {U : Nat → Prop} {w : World} {g : Nat} {p : Par} {now c : Int} {n : ByteArray} {E : List Ent} (t m : Int) (h : AnyL U w g p now E) (hk : wfK c n) (hU : ∀ j, w.heap.size ≤ j → U j) (ht : 0 ≤ t ∧ t ≤ 1099511627776) (hm : max now t = m) {E' : List Ent} {v : Int} (hS : stepE p m c n E = (E', v)) :
    Calls Try.prog 9 #[.pointer (some ⟨g, 0, none⟩), .int .i64 c, .string n, .int .i64 t] w fun e w' => e = .returned (.int .i64 v) ∧ AnyL U w' g p m E' ∧ Shy U w w' := by
  subst hm
  obtain ⟨mb, A, cc, P, hl, hu, rfl⟩ := h
  have hd := hl.2.2.2.2.2.2.2.2.2.1
  by_cases hex : ∃ r ∈ P, r.is c n
  · obtain ⟨P1, r, P2, rfl, rfl, rfl, h1, h2⟩ := any_found hex hd
    have e1 := find_some' (P2 := P2) h1 (show r.is r.1.c r.1.n from ⟨rfl, rfl⟩)
    unfold stepE at hS
    rw [e1] at hS
    simp only at hS
    injection hS with hS1 hS2
    refine (judge_found r t hl ht).mono ?_
    rintro e w' ⟨he, hl', hs⟩
    refine ⟨by rw [he, ← hS2]; rfl, ⟨mb, A, cc, _, hl', fun j hj => ?_, ?_⟩, hs.mono fun j _ hj => ?_⟩
    · rcases hj with rfl | rfl | hj | ⟨s, hs', rfl⟩
      · exact hu _ (.inl rfl)
      · exact hu _ (.inr (.inl rfl))
      · exact hu _ (.inr (.inr (.inl hj)))
      · rw [List.mem_append, List.mem_cons] at hs'
        rcases hs' with hs' | rfl | hs'
        · exact hu _ (.inr (.inr (.inr ⟨s, by simp [hs'], rfl⟩)))
        · exact hu _ (.inr (.inr (.inr ⟨r, by simp, rfl⟩)))
        · exact hu _ (.inr (.inr (.inr ⟨s, by simp [hs'], rfl⟩)))
    · rw [← hS1]
      simp only [List.map_append, List.map_cons]
      rw [map_one h1, map_one h2, if_pos (hit_fst.2 ⟨rfl, rfl⟩)]
      rfl
    · rcases hj with rfl | rfl
      · exact hu _ (.inl rfl)
      · exact hu _ (.inr (.inr (.inr ⟨r, by simp, rfl⟩)))
  · have hno : ∀ r ∈ P, ¬ r.is c n := fun r hr h => hex ⟨r, hr, h⟩
    unfold stepE at hS
    rw [find_none hno] at hS
    simp only [List.length_map] at hS
    have huE : ∀ {w' : World} {A' : Option Addr} {tb : Nat} {Q : List Row}, (∀ s ∈ Q, s ∈ P) → w.heap.size ≤ tb → (∀ k, blk A' = some k → blk A = some k ∨ w.heap.size ≤ k) → ∀ j, ownsR g mb A' (Q ++ [(⟨c, n, max now t, 1⟩, tb)]) j → U j := by
      intro w' A' tb Q hQ htb hA' j hj
      rcases hj with rfl | rfl | hj | ⟨r, hr, rfl⟩
      · exact hu _ (.inl rfl)
      · exact hu _ (.inr (.inl rfl))
      · rcases hA' j hj with h | h
        · exact hu _ (.inr (.inr (.inl h)))
        · exact hU j h
      · rcases List.mem_append.1 hr with hr | hr
        · exact hu _ (.inr (.inr (.inr ⟨r, hQ r hr, rfl⟩)))
        · rw [List.mem_singleton] at hr; subst hr; exact hU _ htb
    have hsU : ∀ j, (j = g ∨ j = mb ∨ blk A = some j) → U j := by
      intro j hj
      rcases hj with rfl | rfl | hj
      · exact hu _ (.inl rfl)
      · exact hu _ (.inr (.inl rfl))
      · exact hu _ (.inr (.inr (.inl hj)))
    by_cases hlt : (P.length : Int) < p.most
    · rw [if_pos hlt] at hS
      injection hS with hS1 hS2
      refine (judge_new c n t hl hk hno hlt ht).mono ?_
      rintro e w' ⟨he, A', cc', tb, hl', htb, hA', hs⟩
      refine ⟨by rw [he, ← hS2], ⟨mb, A', cc', _, hl', huE (w' := w') (fun _ h => h) htb hA', by rw [← hS1]; simp⟩, hs.mono fun j _ hj => hsU j hj⟩
    · rw [if_neg hlt] at hS
      have heq : (P.length : Int) = p.most := by have := hl.2.2.2.2.2.2.2.1; omega
      have hgf := goes_fst p (max now t) P P.length
      rcases hG : goesE p (max now t) (P.map Prod.fst) P.length with _ | i
      · rw [hG] at hS hgf
        simp only at hS
        injection hS with hS1 hS2
        refine (judge_full c n t hl hk hno heq hgf ht).mono ?_
        rintro e w' ⟨he, hl', hs⟩
        refine ⟨by rw [he, ← hS2], ⟨mb, A, cc, _, hl', hu, hS1⟩, hs.mono fun j _ hj => by subst hj; exact hu _ (.inl rfl)⟩
      · rw [hG] at hS hgf
        simp only at hS
        injection hS with hS1 hS2
        refine (judge_evict c n t hl hk hno heq hgf ht).mono ?_
        rintro e w' ⟨P1, r, P2, rfl, rfl, he, A', cc', tb, hl', htb, hA', hs⟩
        refine ⟨by rw [he, ← hS2], ⟨mb, A', cc', _, hl', huE (w' := w') (fun s h => by rcases List.mem_append.1 h with h | h <;> simp [h]) htb hA', ?_⟩, hs.mono fun j _ hj => hsU j hj⟩
        rw [← hS1, List.map_append, List.map_append, List.map_append, List.map_cons, show P1.length = (P1.map Prod.fst).length from by simp, List.eraseIdx_append_of_length_le (Nat.le_refl _)]
        simp
theorem any_len {U : Nat → Prop} {w : World} {g : Nat} {p : Par} {now : Int} {E : List Ent} (h : AnyL U w g p now E) :
    Calls Try.prog 10 #[.pointer (some ⟨g, 0, none⟩)] w fun e w' => e = .returned (.int .i64 E.length) ∧ w = w' := by
  obtain ⟨mb, A, cc, P, hl, hu, rfl⟩ := h
  have := len_any hl
  simpa using this
def countE (c : Int) (n : ByteArray) (E : List Ent) : Int := match E.find? (hitE c n) with | some e => e.k | none => 0
theorem any_count {U : Nat → Prop} {w : World} {g : Nat} {p : Par} {now : Int} {E : List Ent} (c : Int) (n : ByteArray) (h : AnyL U w g p now E) (hk : wfK c n) {v : Int} (hv : countE c n E = v) :
    Calls Try.prog 11 #[.pointer (some ⟨g, 0, none⟩), .int .i64 c, .string n] w fun e w' => e = .returned (.int .i64 v) ∧ w = w' := by
  obtain ⟨mb, A, cc, P, hl, hu, rfl⟩ := h
  subst hv
  have hd := hl.2.2.2.2.2.2.2.2.2.1
  unfold countE
  by_cases hex : ∃ r ∈ P, r.is c n
  · obtain ⟨P1, r, P2, rfl, rfl, rfl, h1, h2⟩ := any_found hex hd
    rw [find_some' h1 ⟨rfl, rfl⟩]
    exact count_yes r hl
  · have hno : ∀ r ∈ P, ¬ r.is c n := fun r hr h => hex ⟨r, hr, h⟩
    rw [find_none hno]
    exact count_no c n hl hk hno
theorem AnyL.okE {U : Nat → Prop} {w : World} {g : Nat} {p : Par} {now : Int} {E : List Ent} (h : AnyL U w g p now E) : (E.length : Int) ≤ p.most ∧ 0 ≤ now ∧ now ≤ 1099511627776 := by
  obtain ⟨mb, A, cc, P, hl, hu, rfl⟩ := h
  exact ⟨by simpa using hl.2.2.2.2.2.2.2.1, hl.2.2.2.2.2.1, hl.2.2.2.2.2.2.1⟩
end Go.Proofs.Ytnoepnbgnlolbaa

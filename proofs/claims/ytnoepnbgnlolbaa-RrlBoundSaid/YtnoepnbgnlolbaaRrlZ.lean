/- RrlBound, the plain law: of a key, what passes in a window, and what slips of what did not pass. -/
import Derived.Test.YtnoepnbgnlolbaaRrlX
namespace Go.Proofs.Ytnoepnbgnlolbaa
open Go.BK Go.RowKit Go.Maps
set_option linter.unusedVariables false
/-- The entry of a key. -/
def atE (c : Int) (n : ByteArray) (E : List Ent) : Option (Int × Int) := (E.find? (hitE c n)).map fun e => (e.b, e.k)
theorem goesE_ok (p : Par) (now : Int) (E : List Ent) : ∀ k j, goesE p now E k = some j → j < k ∧ ∃ r, E[j]? = some r ∧ overB p now r.b = true := by
  intro k
  induction k with
  | zero => intro j h; cases h
  | succ k ih =>
    intro j h
    unfold goesE at h
    rcases hr : E[k]? with _ | r
    · rw [hr] at h
      have := ih j h
      exact ⟨by omega, this.2⟩
    · rw [hr] at h
      simp only at h
      by_cases ho : overB p now r.b = true
      · rw [if_pos ho] at h
        rcases hg : goesE p now E k with _ | i
        · rw [hg] at h; cases h; exact ⟨by omega, r, hr, ho⟩
        · rw [hg] at h
          simp only at h
          have h2 := ih i hg
          rcases hs : E[i]? with _ | s
          · rw [hs] at h; cases h; exact ⟨by omega, h2.2⟩
          · rw [hs] at h
            simp only at h
            split at h
            · cases h; exact ⟨by omega, r, hr, ho⟩
            · cases h; exact ⟨by omega, h2.2⟩
      · rw [if_neg ho] at h
        have := ih j h
        exact ⟨by omega, this.2⟩
theorem find_map_hit (p : Par) (T c : Int) (n : ByteArray) (d : Int) (m : ByteArray) (E : List Ent) :
    (E.map (fun x => if hitE c n x = true then bumpE p T x else x)).find? (hitE d m) = (E.find? (hitE d m)).map (fun x => if hitE c n x = true then bumpE p T x else x) := by
  induction E with
  | nil => rfl
  | cons e E ih =>
    have h1 : hitE d m (if hitE c n e = true then bumpE p T e else e) = hitE d m e := by split <;> rfl
    rw [List.map_cons, List.find?_cons, List.find?_cons, h1, ih]
    cases hitE d m e <;> rfl
theorem find_erase {E : List Ent} {f : Ent → Bool} : ∀ {i : Nat}, (E.eraseIdx i).find? f = E.find? f ∨ ∃ r, E[i]? = some r ∧ f r = true ∧ E.find? f = some r := by
  induction E with
  | nil => intro i; exact .inl rfl
  | cons e E ih =>
    intro i
    cases i with
    | zero =>
      simp only [List.eraseIdx_cons_zero, List.find?_cons, List.getElem?_cons_zero]
      cases h : f e
      · exact .inl rfl
      · exact .inr ⟨e, rfl, h, rfl⟩
    | succ i =>
      simp only [List.eraseIdx_cons_succ, List.find?_cons, List.getElem?_cons_succ]
      cases h : f e
      · exact ih
      · exact .inl rfl
/-- What a step does to another key: nothing, or it goes, its window being over (then the next may be found: none is, for keys are told once). -/
theorem step_other {p : Par} {T c d : Int} {n m : ByteArray} {E : List Ent} (hd : E.Pairwise fun r s => ¬ (r.c = s.c ∧ r.n = s.n)) (hne : ¬ (d = c ∧ m = n)) :
    atE d m (stepE p T c n E).1 = atE d m E ∨ ∃ b k, atE d m E = some (b, k) ∧ p.window ≤ T - b ∧ atE d m (stepE p T c n E).1 = none := by
  have hnew : ∀ (b k : Int), hitE d m ⟨c, n, b, k⟩ = false := fun b k => by unfold hitE; rw [decide_eq_false_iff_not]; exact fun h => hne ⟨h.1.symm, h.2.symm⟩
  unfold stepE
  rcases hf : E.find? (hitE c n) with _ | e
  · simp only
    split
    · refine .inl ?_
      unfold atE
      rw [List.find?_append, List.find?_cons, hnew]
      simp
    · rcases hg : goesE p T E E.length with _ | i
      · exact .inl rfl
      · simp only
        have e1 : atE d m (E.eraseIdx i ++ [⟨c, n, T, 1⟩]) = atE d m (E.eraseIdx i) := by
          unfold atE
          rw [List.find?_append, List.find?_cons, hnew]
          simp
        rw [e1]
        rcases find_erase (E := E) (f := hitE d m) (i := i) with h | ⟨r, h1, h2, h3⟩
        · exact .inl (by unfold atE; rw [h])
        · obtain ⟨_, r2, h4, h5⟩ := goesE_ok p T E _ _ hg
          rw [h1] at h4
          cases h4
          refine .inr ⟨r.b, r.k, by unfold atE; rw [h3]; rfl, by unfold overB at h5; simpa using h5, ?_⟩
          unfold atE
          have hE : E = E.take i ++ r :: E.drop (i + 1) := by
            have e := (List.getElem?_eq_some_iff.1 h1).2
            rw [← e]; simp
          have hil := (List.getElem?_eq_some_iff.1 h1).1
          have hre : r.c = d ∧ r.n = m := by unfold hitE at h2; simpa using h2
          rw [List.eraseIdx_eq_take_drop_succ]
          rw [hE, List.pairwise_append, List.pairwise_cons] at hd
          rw [List.find?_eq_none.2]
          · rfl
          · intro s hs
            unfold hitE
            rw [decide_eq_true_iff]
            intro h
            rcases List.mem_append.1 hs with hs | hs
            · exact hd.2.2 s hs r (by simp) ⟨h.1.trans hre.1.symm, h.2.trans hre.2.symm⟩
            · exact hd.2.1.1 s hs ⟨hre.1.trans h.1.symm, hre.2.trans h.2.symm⟩
  · simp only
    refine .inl ?_
    unfold atE
    rw [find_map_hit]
    rcases hf2 : E.find? (hitE d m) with _ | x
    · rfl
    · have hx : hitE c n x = false := by
        have := List.find?_some hf2
        unfold hitE at this ⊢
        rw [decide_eq_true_iff] at this
        rw [decide_eq_false_iff_not, this.1, this.2]
        exact hne
      simp only [Option.map_some]
      rw [hx]; rfl
/-- What it does to the key itself. -/
theorem step_own {p : Par} {T c : Int} {n : ByteArray} {E : List Ent} :
    (∃ b k, atE c n E = some (b, k) ∧ atE c n (stepE p T c n E).1 = some (bumpB p T b, bumpK p T b k) ∧ (stepE p T c n E).2 = codeS p (bumpK p T b k)) ∨
    atE c n E = none ∧ (atE c n (stepE p T c n E).1 = some (T, 1) ∧ (stepE p T c n E).2 = codeS p 1 ∨ (stepE p T c n E).1 = E ∧ (stepE p T c n E).2 = 2) := by
  unfold stepE
  rcases hf : E.find? (hitE c n) with _ | e
  · refine .inr ⟨by unfold atE; rw [hf]; rfl, ?_⟩
    have hnew : hitE c n ⟨c, n, T, 1⟩ = true := by unfold hitE; simp
    simp only
    split
    · refine .inl ⟨?_, rfl⟩
      unfold atE
      rw [List.find?_append, hf, List.find?_cons, hnew]; rfl
    · rcases hg : goesE p T E E.length with _ | i
      · exact .inr ⟨rfl, rfl⟩
      · refine .inl ⟨?_, rfl⟩
        unfold atE
        have h0 : (E.eraseIdx i).find? (hitE c n) = none := by
          rcases find_erase (E := E) (f := hitE c n) (i := i) with h | ⟨r, _, _, h3⟩
          · rw [h, hf]
          · rw [hf] at h3; cases h3
        rw [List.find?_append, h0, List.find?_cons, hnew]; rfl
  · refine .inl ⟨e.b, e.k, by unfold atE; rw [hf]; rfl, ?_, rfl⟩
    unfold atE
    rw [find_map_hit, hf]
    have := List.find?_some hf
    simp only [Option.map_some]
    rw [this]; rfl
/-- The keys are told once. -/
def onceE (E : List Ent) : Prop := E.Pairwise fun r s => ¬ (r.c = s.c ∧ r.n = s.n)
theorem step_once {p : Par} {T c : Int} {n : ByteArray} {E : List Ent} (h : onceE E) : onceE (stepE p T c n E).1 := by
  have hadd : ∀ L : List Ent, onceE L → (∀ e ∈ L, e ∈ E) → E.find? (hitE c n) = none → onceE (L ++ [⟨c, n, T, 1⟩]) := by
    intro L hL hs hf
    unfold onceE at hL ⊢
    rw [List.pairwise_append]
    refine ⟨hL, by simp, fun r hr s hs' h2 => ?_⟩
    rw [List.mem_singleton] at hs'
    subst hs'
    have := List.find?_eq_none.1 hf r (hs r hr)
    exact this (by unfold hitE; rw [decide_eq_true_iff]; exact h2)
  unfold stepE
  rcases hf : E.find? (hitE c n) with _ | e
  · simp only
    split
    · exact hadd E h (fun _ h => h) hf
    · rcases hg : goesE p T E E.length with _ | i
      · exact h
      · exact hadd _ (h.sublist (List.eraseIdx_sublist E i)) (fun e he => (List.eraseIdx_sublist E i).subset he) hf
  · simp only
    unfold onceE at h ⊢
    rw [List.pairwise_map]
    refine h.imp fun {r s} hrs => ?_
    have e1 : ∀ x : Ent, (if hitE c n x = true then bumpE p T x else x).c = x.c ∧ (if hitE c n x = true then bumpE p T x else x).n = x.n := fun x => by split <;> exact ⟨rfl, rfl⟩
    rw [(e1 r).1, (e1 r).2, (e1 s).1, (e1 s).2]
    exact hrs
theorem step_len {p : Par} {T c : Int} {n : ByteArray} {E : List Ent} : (stepE p T c n E).2 = 0 ∨ (stepE p T c n E).2 = 2 ∨ (0 < p.slip ∧ (stepE p T c n E).2 = 1) := by
  have hc : ∀ k, codeS p k = 0 ∨ codeS p k = 2 ∨ (0 < p.slip ∧ codeS p k = 1) := by
    intro k
    unfold codeS
    split
    · exact .inl rfl
    · split
      · rename_i h; exact .inr (.inr ⟨h.1, rfl⟩)
      · exact .inr (.inl rfl)
  unfold stepE
  split
  · exact hc _
  · split
    · exact hc _
    · split
      · exact .inr (.inl rfl)
      · exact hc _

/-- Passes since t0 (the law's bound while it lasts). -/
def PassI (p : Par) (t0 q : Int) : Option (Int × Int) → Prop
  | none => q ≤ p.limit
  | some (b, k) => 1 ≤ k ∧ (b < t0 → q ≤ min k p.limit) ∧ (t0 ≤ b → q ≤ p.limit + min k p.limit)
theorem code0 {p : Par} {k : Int} : codeS p k = 0 ↔ k ≤ p.limit := by
  unfold codeS
  constructor
  · intro h
    by_cases h1 : k - p.limit ≤ 0
    · omega
    · rw [if_neg h1] at h
      split at h <;> cases h
  · intro h; rw [if_pos (by omega)]
theorem pass_new {p : Par} {t0 q T : Int} (hl : 0 ≤ p.limit) (h : q ≤ p.limit) (hT : t0 ≤ T) : PassI p t0 (if codeS p 1 = 0 then q + 1 else q) (some (T, 1)) := by
  refine ⟨by omega, fun h => by omega, fun _ => ?_⟩
  by_cases h1 : codeS p 1 = 0
  · rw [if_pos h1]; have := code0.1 h1; omega
  · rw [if_neg h1]; omega
theorem pass_own {p : Par} {t0 q T c : Int} {n : ByteArray} {E : List Ent} (hl : 0 ≤ p.limit ∧ p.limit ≤ 1000) (h : PassI p t0 q (atE c n E)) (hT : t0 ≤ T ∧ T < t0 + p.window) :
    PassI p t0 (if (stepE p T c n E).2 = 0 then q + 1 else q) (atE c n (stepE p T c n E).1) := by
  rcases step_own (p := p) (T := T) (c := c) (n := n) (E := E) with ⟨b, k, h1, h2, h3⟩ | ⟨h1, ⟨h2, h3⟩ | ⟨h2, h3⟩⟩
  · rw [h1] at h
    obtain ⟨hk, ha, hb⟩ := h
    rw [h2, h3]
    by_cases ho : overB p T b = true
    · have ho' : p.window ≤ T - b := by unfold overB at ho; simpa using ho
      unfold bumpB bumpK
      rw [if_pos ho, if_pos ho]
      exact pass_new hl.1 (by have := ha (by omega); omega) hT.1
    · unfold bumpB bumpK
      rw [if_neg ho, if_neg ho]
      have hc := code0 (p := p) (k := min (k + 1) 1073741824)
      refine ⟨by omega, fun h => ?_, fun h => ?_⟩
      · have := ha h
        split <;> rename_i h5
        · have := hc.1 h5; omega
        · have : ¬ min (k + 1) 1073741824 ≤ p.limit := fun h => h5 (hc.2 h)
          omega
      · have := hb h
        split <;> rename_i h5
        · have := hc.1 h5; omega
        · have : ¬ min (k + 1) 1073741824 ≤ p.limit := fun h => h5 (hc.2 h)
          omega
  · rw [h1] at h
    rw [h2, h3]
    exact pass_new hl.1 h hT.1
  · rw [h3, h2]
    exact h
theorem pass_other {p : Par} {t0 q T c d : Int} {n m : ByteArray} {E : List Ent} (hd : onceE E) (h : PassI p t0 q (atE d m E)) (hne : ¬ (d = c ∧ m = n)) (hT : T < t0 + p.window) :
    PassI p t0 q (atE d m (stepE p T c n E).1) := by
  rcases step_other (p := p) (T := T) hd hne with h1 | ⟨b, k, h1, h2, h3⟩
  · rw [h1]; exact h
  · rw [h1] at h
    rw [h3]
    have := h.2.1 (by omega)
    show q ≤ p.limit
    omega
theorem pass_le {p : Par} {t0 q : Int} {s : Option (Int × Int)} (h : PassI p t0 q s) (hl : 0 ≤ p.limit) : q ≤ 2 * p.limit := by
  cases s with
  | none => have : q ≤ p.limit := h; omega
  | some s =>
    obtain ⟨b, k⟩ := s
    obtain ⟨h1, h2, h3⟩ := h
    by_cases hb : b < t0
    · have := h2 hb; omega
    · have := h3 (by omega); omega
theorem pass_zero {p : Par} {t0 : Int} {s : Option (Int × Int)} (hs : ∀ b k, s = some (b, k) → 1 ≤ k) (hl : 0 ≤ p.limit) : PassI p t0 0 s := by
  cases s with
  | none => exact hl
  | some s =>
    have := hs s.1 s.2 rfl
    exact ⟨this, fun _ => by omega, fun _ => by omega⟩

/-- What lacks till the next slip. -/
def potS (p : Par) (k : Int) : Int := if p.limit < k then (k - p.limit) % p.slip else 0
def SlipI (p : Par) (a r : Int) (steps : Int) : Option (Int × Int) → Prop
  | none => a * p.slip ≤ r
  | some (_, k) => 1 ≤ k ∧ k ≤ steps ∧ a * p.slip + potS p k ≤ r
theorem mod_step {x s : Int} (hs : 0 < s) (_ : 0 ≤ x) : (x + 1) % s = 0 ∧ x % s = s - 1 ∨ ¬ (x + 1) % s = 0 ∧ (x + 1) % s = x % s + 1 := by
  have h1 := Int.emod_nonneg x (by omega : s ≠ 0)
  have h2 := Int.emod_lt_of_pos x hs
  by_cases h : x % s = s - 1
  · left
    refine ⟨?_, h⟩
    have : (x + 1) = (x / s + 1) * s := by
      have := Int.emod_add_mul_ediv x s
      rw [h] at this
      rw [Int.add_mul, Int.mul_comm (x / s) s]; omega
    rw [this]; exact Int.mul_emod_left _ _
  · right
    have e : (x + 1) % s = x % s + 1 := by
      rw [Int.add_emod]
      by_cases hs1 : s = 1
      · subst hs1; omega
      · rw [Int.emod_eq_of_lt (a := 1) (by omega) (by omega)]
        exact Int.emod_eq_of_lt (by omega) (by omega)
    exact ⟨by omega, e⟩
theorem slip_count {p : Par} {a r k : Int} (hs : 0 < p.slip) (hl : 0 ≤ p.limit) (hk : 0 ≤ k) (h : a * p.slip + potS p k ≤ r) :
    (if codeS p (k + 1) = 1 then a + 1 else a) * p.slip + potS p (k + 1) ≤ (if codeS p (k + 1) = 0 then r else r + 1) := by
  by_cases h0 : k + 1 ≤ p.limit
  · have e0 := code0.2 h0
    have z1 : potS p (k + 1) = 0 := by unfold potS; rw [if_neg (by omega)]
    have z0 : potS p k = 0 := by unfold potS; rw [if_neg (by omega)]
    rw [e0, z1]
    rw [z0] at h
    simpa using h
  · have e0 : ¬ codeS p (k + 1) = 0 := fun e => h0 (code0.1 e)
    rw [if_neg e0]
    have hp : potS p (k + 1) = (k - p.limit + 1) % p.slip := by unfold potS; rw [if_pos (by omega)]; congr 1; omega
    have hp0 : potS p k = (k - p.limit) % p.slip := by
      unfold potS
      split
      · rfl
      · have : k - p.limit = 0 := by omega
        rw [this]; simp
    have hc : codeS p (k + 1) = if (k - p.limit + 1) % p.slip = 0 then 1 else 2 := by
      unfold codeS
      rw [if_neg (by omega), show k + 1 - p.limit = k - p.limit + 1 from by omega]
      simp [hs]
    rw [hp, hc]
    rw [hp0] at h
    rcases mod_step hs (show 0 ≤ k - p.limit by omega) with ⟨h1, h2⟩ | ⟨h1, h2⟩
    · rw [if_pos h1, if_pos rfl, h1, Int.add_mul]; omega
    · rw [if_neg h1, if_neg (by decide), h2]; omega
theorem slip_own {p : Par} {a r st T c : Int} {n : ByteArray} {E : List Ent} (hs : 0 < p.slip) (hl : 0 ≤ p.limit) (hst : 0 ≤ st ∧ st ≤ 1000) (h : SlipI p a r st (atE c n E)) :
    SlipI p (if (stepE p T c n E).2 = 1 then a + 1 else a) (if (stepE p T c n E).2 = 0 then r else r + 1) (st + 1) (atE c n (stepE p T c n E).1) := by
  have hz : potS p 0 = 0 := by unfold potS; rw [if_neg (by omega)]
  have hpot : ∀ k, 0 ≤ potS p k := fun k => by
    unfold potS
    split
    · exact Int.emod_nonneg _ (by omega)
    · omega
  rcases step_own (p := p) (T := T) (c := c) (n := n) (E := E) with ⟨b, k, h1, h2, h3⟩ | ⟨h1, ⟨h2, h3⟩ | ⟨h2, h3⟩⟩
  · rw [h1] at h
    obtain ⟨hk, hks, ha⟩ := h
    rw [h2, h3]
    by_cases ho : overB p T b = true
    · unfold bumpK
      rw [if_pos ho]
      have := slip_count (k := 0) (a := a) (r := r) hs hl (by omega) (by rw [hz]; have := hpot k; omega)
      exact ⟨by omega, by omega, this⟩
    · unfold bumpK
      rw [if_neg ho, show min (k + 1) 1073741824 = k + 1 from by omega]
      exact ⟨by omega, by omega, slip_count hs hl (by omega) ha⟩
  · rw [h1] at h
    rw [h2, h3]
    have h : a * p.slip ≤ r := h
    exact ⟨by omega, by omega, slip_count (k := 0) hs hl (by omega) (by rw [hz]; omega)⟩
  · rw [h3, h2, h1]
    rw [h1] at h
    have h : a * p.slip ≤ r := h
    show (if (2 : Int) = 1 then a + 1 else a) * p.slip ≤ if (2 : Int) = 0 then r else r + 1
    rw [if_neg (by decide), if_neg (by decide)]
    omega
theorem slip_other {p : Par} {a r st T c d : Int} {n m : ByteArray} {E : List Ent} (hs : 0 < p.slip) (hd : onceE E) (h : SlipI p a r st (atE d m E)) (hne : ¬ (d = c ∧ m = n)) :
    SlipI p a r (st + 1) (atE d m (stepE p T c n E).1) := by
  have hpot : ∀ k, 0 ≤ potS p k := fun k => by
    unfold potS
    split
    · exact Int.emod_nonneg _ (by omega)
    · omega
  have hup : ∀ s, SlipI p a r st s → SlipI p a r (st + 1) s := by
    intro s h
    cases s with
    | none => exact h
    | some s => exact ⟨h.1, by have := h.2.1; omega, h.2.2⟩
  rcases step_other (p := p) (T := T) hd hne with h1 | ⟨b, k, h1, h2, h3⟩
  · rw [h1]; exact hup _ h
  · rw [h1] at h
    rw [h3]
    have := h.2.2
    have := hpot k
    show a * p.slip ≤ r
    omega
theorem slip_le {p : Par} {a r st : Int} {s : Option (Int × Int)} (hs : 0 < p.slip) (h : SlipI p a r st s) : a * p.slip ≤ r := by
  cases s with
  | none => exact h
  | some s =>
    have hpot : 0 ≤ potS p s.2 := by
      unfold potS
      split
      · exact Int.emod_nonneg _ (by omega)
      · omega
    have := h.2.2
    omega
/-- A step of any answer: a name that is too long is dropped, and nothing turns. -/
def judS (p : Par) (T c : Int) (n : ByteArray) (E : List Ent) : List Ent × Int := if n.size ≤ 255 then stepE p T c n E else (E, 2)
def stB (p : Par) (C : Nat → Int) (Nm : Nat → ByteArray) (T : Nat → Int) : Nat → List Ent
  | 0 => []
  | i + 1 => (judS p (T i) (C i) (Nm i) (stB p C Nm T i)).1
def sdB (p : Par) (C : Nat → Int) (Nm : Nat → ByteArray) (T : Nat → Int) (i : Nat) : Int := (judS p (T i) (C i) (Nm i) (stB p C Nm T i)).2
/-- The passes of i's key from i on, among m answers. -/
def pasN (C : Nat → Int) (Nm : Nat → ByteArray) (sd : Nat → Int) (i : Nat) : Nat → Int
  | 0 => 0
  | m + 1 => if (C (i + m) = C i ∧ Nm (i + m) = Nm i) ∧ sd (i + m) = 0 then pasN C Nm sd i m + 1 else pasN C Nm sd i m
/-- Those of i's key among the first m that did not pass; and that slipped. -/
def rstN (C : Nat → Int) (Nm : Nat → ByteArray) (sd : Nat → Int) (i : Nat) : Nat → Int
  | 0 => 0
  | m + 1 => if (C m = C i ∧ Nm m = Nm i) ∧ ¬ sd m = 0 then rstN C Nm sd i m + 1 else rstN C Nm sd i m
def slpN (C : Nat → Int) (Nm : Nat → ByteArray) (sd : Nat → Int) (i : Nat) : Nat → Int
  | 0 => 0
  | m + 1 => if (C m = C i ∧ Nm m = Nm i) ∧ sd m = 1 then slpN C Nm sd i m + 1 else slpN C Nm sd i m
theorem pasN_le {C : Nat → Int} {Nm : Nat → ByteArray} {sd : Nat → Int} {i : Nat} : ∀ m, 0 ≤ pasN C Nm sd i m ∧ pasN C Nm sd i m ≤ m := by
  intro m
  induction m with
  | zero => exact ⟨Int.le_refl _, Int.le_refl _⟩
  | succ m ih => unfold pasN; split <;> omega
theorem rstN_le {C : Nat → Int} {Nm : Nat → ByteArray} {sd : Nat → Int} {i : Nat} : ∀ m, 0 ≤ rstN C Nm sd i m ∧ rstN C Nm sd i m ≤ m := by
  intro m
  induction m with
  | zero => exact ⟨Int.le_refl _, Int.le_refl _⟩
  | succ m ih => unfold rstN; split <;> omega
theorem slpN_le {C : Nat → Int} {Nm : Nat → ByteArray} {sd : Nat → Int} {i : Nat} : ∀ m, 0 ≤ slpN C Nm sd i m ∧ slpN C Nm sd i m ≤ m := by
  intro m
  induction m with
  | zero => exact ⟨Int.le_refl _, Int.le_refl _⟩
  | succ m ih => unfold slpN; split <;> omega
theorem stB_once (p : Par) (C : Nat → Int) (Nm : Nat → ByteArray) (T : Nat → Int) : ∀ i, onceE (stB p C Nm T i) := by
  intro i
  induction i with
  | zero => exact List.Pairwise.nil
  | succ i ih =>
    unfold stB judS
    split
    · exact step_once ih
    · exact ih
theorem step_pos {p : Par} {T c d : Int} {n m : ByteArray} {E : List Ent} (hd : onceE E) (h : ∀ b k, atE d m E = some (b, k) → 1 ≤ k) : ∀ b k, atE d m (stepE p T c n E).1 = some (b, k) → 1 ≤ k := by
  intro b k hb
  by_cases hk : d = c ∧ m = n
  · obtain ⟨rfl, rfl⟩ := hk
    rcases step_own (p := p) (T := T) (c := d) (n := m) (E := E) with ⟨b', k', h1, h2, _⟩ | ⟨h1, ⟨h2, _⟩ | ⟨h2, _⟩⟩
    · rw [h2] at hb
      cases hb
      have := h _ _ h1
      unfold bumpK
      split <;> omega
    · rw [h2] at hb; cases hb; omega
    · rw [h2] at hb; exact h _ _ hb
  · rcases step_other (p := p) (T := T) hd hk with h1 | ⟨b', k', h1, _, h3⟩
    · rw [h1] at hb; exact h _ _ hb
    · rw [h3] at hb; cases hb
theorem stB_pos (p : Par) (C : Nat → Int) (Nm : Nat → ByteArray) (T : Nat → Int) (d : Int) (m : ByteArray) : ∀ i b k, atE d m (stB p C Nm T i) = some (b, k) → 1 ≤ k := by
  intro i
  induction i with
  | zero => intro b k h; cases h
  | succ i ih =>
    unfold stB judS
    split
    · exact step_pos (stB_once p C Nm T i) ih
    · exact ih
theorem pass_inv (p : Par) (C : Nat → Int) (Nm : Nat → ByteArray) (T : Nat → Int) (hl : 0 ≤ p.limit ∧ p.limit ≤ 1000) (i : Nat) : ∀ m, (∀ j, j < m → T i ≤ T (i + j) ∧ T (i + j) < T i + p.window) →
    PassI p (T i) (pasN C Nm (sdB p C Nm T) i m) (atE (C i) (Nm i) (stB p C Nm T (i + m))) := by
  intro m
  induction m with
  | zero => intro _; exact pass_zero (stB_pos p C Nm T _ _ i) hl.1
  | succ m ih =>
    intro h
    have h0 := ih fun j hj => h j (by omega)
    have ht := h m (by omega)
    have hu : stB p C Nm T (i + (m + 1)) = (judS p (T (i + m)) (C (i + m)) (Nm (i + m)) (stB p C Nm T (i + m))).1 := rfl
    have hs : sdB p C Nm T (i + m) = (judS p (T (i + m)) (C (i + m)) (Nm (i + m)) (stB p C Nm T (i + m))).2 := rfl
    rw [hu]
    unfold pasN
    rw [hs]
    unfold judS
    by_cases hn : (Nm (i + m)).size ≤ 255
    · rw [if_pos hn]
      by_cases hk : C (i + m) = C i ∧ Nm (i + m) = Nm i
      · have := pass_own (T := T (i + m)) hl h0 ht
        rw [hk.1, hk.2]
        simp only [and_self, true_and]
        exact this
      · rw [if_neg (fun h => hk h.1)]
        exact pass_other (stB_once p C Nm T _) h0 (fun h => hk ⟨h.1.symm, h.2.symm⟩) ht.2
    · rw [if_neg hn, if_neg (fun h => by have := h.2; cases this)]
      exact h0
theorem bound_pass (p : Par) (C : Nat → Int) (Nm : Nat → ByteArray) (T : Nat → Int) (hl : 0 ≤ p.limit ∧ p.limit ≤ 1000) (i m : Nat) (h : ∀ j, j < m → T i ≤ T (i + j) ∧ T (i + j) < T i + p.window) :
    pasN C Nm (sdB p C Nm T) i m ≤ 2 * p.limit := pass_le (pass_inv p C Nm T hl i m h) hl.1
theorem slip_inv (p : Par) (C : Nat → Int) (Nm : Nat → ByteArray) (T : Nat → Int) (hs : 0 < p.slip) (hl : 0 ≤ p.limit) (i : Nat) : ∀ m : Nat, m ≤ 1000 →
    SlipI p (slpN C Nm (sdB p C Nm T) i m) (rstN C Nm (sdB p C Nm T) i m) m (atE (C i) (Nm i) (stB p C Nm T m)) := by
  intro m
  induction m with
  | zero => intro _; show (0 : Int) * p.slip ≤ 0; omega
  | succ m ih =>
    intro h
    have h0 := ih (by omega)
    have hu : stB p C Nm T (m + 1) = (judS p (T m) (C m) (Nm m) (stB p C Nm T m)).1 := rfl
    have hsd : sdB p C Nm T m = (judS p (T m) (C m) (Nm m) (stB p C Nm T m)).2 := rfl
    rw [hu]
    unfold slpN rstN
    rw [hsd]
    unfold judS
    rw [Int.natCast_add, Int.natCast_one]
    by_cases hn : (Nm m).size ≤ 255
    · rw [if_pos hn]
      by_cases hk : C m = C i ∧ Nm m = Nm i
      · have := slip_own (T := T m) hs hl ⟨by omega, by omega⟩ h0
        rw [hk.1, hk.2]
        simp only [and_self, true_and]
        simpa using this
      · rw [if_neg (fun h => hk h.1), if_neg (fun h => hk h.1)]
        exact slip_other hs (stB_once p C Nm T _) h0 (fun h => hk ⟨h.1.symm, h.2.symm⟩)
    · rw [if_neg hn, if_neg (fun h => by have := h.2; cases this)]
      by_cases hk : C m = C i ∧ Nm m = Nm i
      · rw [if_pos ⟨hk, by show ¬ (2 : Int) = 0; decide⟩]
        revert h0
        generalize atE (C i) (Nm i) (stB p C Nm T m) = s
        intro h0
        cases s with
        | none => have h0 : _ * _ ≤ _ := h0; show _ * _ ≤ _; omega
        | some s => obtain ⟨z1, z2, z3⟩ := h0; exact ⟨z1, by omega, by omega⟩
      · rw [if_neg (fun h => hk h.1)]
        revert h0
        generalize atE (C i) (Nm i) (stB p C Nm T m) = s
        intro h0
        cases s with
        | none => exact h0
        | some s => obtain ⟨z1, z2, z3⟩ := h0; exact ⟨z1, by omega, z3⟩
theorem bound_slip (p : Par) (C : Nat → Int) (Nm : Nat → ByteArray) (T : Nat → Int) (hs : 0 < p.slip) (hl : 0 ≤ p.limit) (i m : Nat) (hm : m ≤ 1000) :
    slpN C Nm (sdB p C Nm T) i m * p.slip ≤ rstN C Nm (sdB p C Nm T) i m := slip_le hs (slip_inv p C Nm T hs hl i m hm)
theorem sdB_in (p : Par) (C : Nat → Int) (Nm : Nat → ByteArray) (T : Nat → Int) (i : Nat) : sdB p C Nm T i = 0 ∨ sdB p C Nm T i = 2 ∨ (0 < p.slip ∧ sdB p C Nm T i = 1) := by
  unfold sdB judS
  split
  · exact step_len
  · exact .inr (.inl rfl)
end Go.Proofs.Ytnoepnbgnlolbaa

/- Layer 21, plainly: clients in a ring, each with its items and its credit; whose turn it is. -/
import Derived.Test.YtkogagpahidenaaKitA
namespace Go.BK.DR
set_option linter.unusedVariables false

structure Cl where
  n : Int
  cr : Int
  L : List (Int × Int)
structure Par where
  clients : Int
  items : Int
  quantum : Int
  most : Int
structure St where
  ring : List Cl
  turn : Bool
def Par.ok (p : Par) : Prop := (1 ≤ p.clients ∧ p.clients ≤ 1024) ∧ (1 ≤ p.items ∧ p.items ≤ 64) ∧ (1 ≤ p.quantum ∧ p.quantum ≤ 4096) ∧ (1 ≤ p.most ∧ p.most ≤ p.quantum)
def Cl.ok (p : Par) (c : Cl) : Prop := c.L ≠ [] ∧ (c.L.length : Int) ≤ p.items ∧ (∀ x ∈ c.L, 1 ≤ x.1 ∧ x.1 ≤ p.most) ∧ 0 ≤ c.cr ∧ c.cr < p.most + p.quantum
/-- Those whose credit is below the greatest cost. -/
def low (p : Par) (l : List Cl) : Prop := ∀ c ∈ l, c.cr < p.most
def St.ok (p : Par) (s : St) : Prop :=
  (s.ring.length : Int) ≤ p.clients ∧ (∀ c ∈ s.ring, c.ok p) ∧ s.ring.Pairwise (fun a b => a.n ≠ b.n) ∧ low p (if s.turn then s.ring.tail else s.ring) ∧ (s.turn = true → s.ring ≠ [])

/-- The first item is told. -/
def serve (c : Cl) (rest : List Cl) (cr : Int) : St × Option (Int × Int) :=
  match c.L with
  | [] => (⟨c :: rest, false⟩, none)
  | (k, x) :: L => (if L = [] then ⟨rest, false⟩ else ⟨⟨c.n, cr - k, L⟩ :: rest, true⟩, some (c.n, x))
def headK (c : Cl) : Int := (c.L.headD (0, 0)).1
/-- Does the first one's item fit its credit, the quantum besides where its turn begins? -/
def nextS (p : Par) (s : St) : St × Option (Int × Int) :=
  match s.ring with
  | [] => (s, none)
  | c :: rest =>
    if s.turn = true ∧ c.cr < headK c then
      match rest ++ [c] with
      | [] => (s, none)
      | d :: rest' => serve d rest' (d.cr + p.quantum)
    else serve c rest (if s.turn then c.cr else c.cr + p.quantum)
def peekS (p : Par) (s : St) : Option (Int × Int) := (nextS p s).2
def findS (s : St) (n : Int) : Option Cl := s.ring.find? fun c => decide (c.n = n)
def addC (n : Int) (x : Int × Int) (c : Cl) : Cl := if c.n = n then ⟨c.n, c.cr, c.L ++ [x]⟩ else c
def putS (p : Par) (s : St) (n cost x : Int) : St × Int :=
  if cost < 1 ∨ p.most < cost then (s, 5)
  else match findS s n with
    | none => if p.clients ≤ s.ring.length then (s, 8) else (⟨s.ring ++ [⟨n, 0, [(cost, x)]⟩], s.turn⟩, 0)
    | some c => if p.items ≤ c.L.length then (s, 8) else (⟨s.ring.map (addC n (cost, x)), s.turn⟩, 0)
def headN (s : St) : Option Int := s.ring.head?.map Cl.n
def dropS (s : St) (n : Int) : St × List Int :=
  match findS s n with
  | none => (s, [])
  | some c => (⟨s.ring.filter fun d => decide (d.n ≠ n), if headN s = some n then false else s.turn⟩, c.L.map Prod.snd)
def lenS (s : St) : Nat := (s.ring.map fun c => c.L.length).sum
def ofS (s : St) (n : Int) : Nat := ((findS s n).map fun c => c.L.length).getD 0
def clientsS (s : St) : List Int := s.ring.map Cl.n

section
variable {p : Par} {s : St}
theorem find_none {n : Int} (h : ∀ c ∈ s.ring, c.n ≠ n) : findS s n = none := by
  unfold findS
  rw [List.find?_eq_none]
  intro c hc
  simpa using h c hc
theorem find_some {R1 R2 : List Cl} {c : Cl} (t : Bool) (hd : (R1 ++ c :: R2).Pairwise (fun a b => a.n ≠ b.n)) : findS ⟨R1 ++ c :: R2, t⟩ c.n = some c := by
  unfold findS
  rw [List.find?_append]
  have h1 : R1.find? (fun d => decide (d.n = c.n)) = none := by
    rw [List.find?_eq_none]
    intro d hd'
    rw [List.pairwise_append] at hd
    simpa using hd.2.2 d hd' c (by simp)
  rw [h1, List.find?_cons]
  simp
/-- A client is in the ring, or not. -/
theorem split_at (s : St) (n : Int) : (∀ c ∈ s.ring, c.n ≠ n) ∨ ∃ R1 c R2, s.ring = R1 ++ c :: R2 ∧ c.n = n := by
  by_cases h : ∃ c ∈ s.ring, c.n = n
  · obtain ⟨c, hc, rfl⟩ := h
    obtain ⟨R1, R2, h⟩ := List.append_of_mem hc
    exact .inr ⟨R1, c, R2, h, rfl⟩
  · refine .inl fun c hc e => h ⟨c, hc, e⟩
theorem sep_at {R1 R2 : List Cl} {c : Cl} (hd : (R1 ++ c :: R2).Pairwise (fun a b => a.n ≠ b.n)) : (∀ d ∈ R1, d.n ≠ c.n) ∧ (∀ d ∈ R2, d.n ≠ c.n) := by
  rw [List.pairwise_append, List.pairwise_cons] at hd
  exact ⟨fun d h => hd.2.2 d h c (by simp), fun d h => (hd.2.1.1 d h).symm⟩
theorem map_add {R1 R2 : List Cl} {c : Cl} (hd : (R1 ++ c :: R2).Pairwise (fun a b => a.n ≠ b.n)) (x : Int × Int) : (R1 ++ c :: R2).map (addC c.n x) = R1 ++ ⟨c.n, c.cr, c.L ++ [x]⟩ :: R2 := by
  obtain ⟨h1, h2⟩ := sep_at hd
  have e : ∀ l : List Cl, (∀ d ∈ l, d.n ≠ c.n) → l.map (addC c.n x) = l := by
    intro l h
    conv => rhs; rw [← List.map_id l]
    refine List.map_congr_left fun d hd => ?_
    simp [addC, h d hd]
  simp [e R1 h1, e R2 h2, addC]
theorem filter_out {R1 R2 : List Cl} {c : Cl} (hd : (R1 ++ c :: R2).Pairwise (fun a b => a.n ≠ b.n)) : (R1 ++ c :: R2).filter (fun d => decide (d.n ≠ c.n)) = R1 ++ R2 := by
  obtain ⟨h1, h2⟩ := sep_at hd
  have e : ∀ l : List Cl, (∀ d ∈ l, d.n ≠ c.n) → l.filter (fun d => decide (d.n ≠ c.n)) = l := by
    intro l h
    rw [List.filter_eq_self]
    intro d hd
    simpa using h d hd
  rw [List.filter_append, List.filter_cons]
  simp only [e R1 h1, e R2 h2]
  simp
theorem put_new {n cost x : Int} (hc : 1 ≤ cost ∧ cost ≤ p.most) (h : ∀ c ∈ s.ring, c.n ≠ n) : putS p s n cost x = if p.clients ≤ s.ring.length then (s, 8) else (⟨s.ring ++ [⟨n, 0, [(cost, x)]⟩], s.turn⟩, 0) := by
  unfold putS
  rw [if_neg (by omega), find_none h]
theorem put_there {R1 R2 : List Cl} {c : Cl} {t : Bool} {cost x : Int} (hc : 1 ≤ cost ∧ cost ≤ p.most) (hd : (R1 ++ c :: R2).Pairwise (fun a b => a.n ≠ b.n)) :
    putS p ⟨R1 ++ c :: R2, t⟩ c.n cost x = if p.items ≤ c.L.length then (⟨R1 ++ c :: R2, t⟩, 8) else (⟨R1 ++ ⟨c.n, c.cr, c.L ++ [(cost, x)]⟩ :: R2, t⟩, 0) := by
  unfold putS
  rw [if_neg (by omega), find_some t hd]
  simp only
  rw [map_add hd]
theorem drop_there {R1 R2 : List Cl} {c : Cl} {t : Bool} (hd : (R1 ++ c :: R2).Pairwise (fun a b => a.n ≠ b.n)) :
    dropS ⟨R1 ++ c :: R2, t⟩ c.n = (⟨R1 ++ R2, if R1 = [] then false else t⟩, c.L.map Prod.snd) := by
  unfold dropS
  rw [find_some t hd]
  simp only
  rw [filter_out hd]
  obtain ⟨h1, _⟩ := sep_at hd
  cases R1 with
  | nil => simp [headN]
  | cons d R1 => simp [headN, h1 d (by simp)]
theorem drop_none {n : Int} (h : ∀ c ∈ s.ring, c.n ≠ n) : dropS s n = (s, []) := by
  unfold dropS
  rw [find_none h]

/-! ### a state stays one -/
theorem low_cons {c : Cl} {l : List Cl} : low p (c :: l) ↔ c.cr < p.most ∧ low p l := by simp [low]
theorem low_append {l m : List Cl} : low p (l ++ m) ↔ low p l ∧ low p m := by
  constructor
  · intro h; exact ⟨fun c hc => h c (by simp [hc]), fun c hc => h c (by simp [hc])⟩
  · rintro ⟨h1, h2⟩ c hc
    rcases List.mem_append.1 hc with h | h
    · exact h1 c h
    · exact h2 c h
theorem low_rest (h : s.ok p) : low p s.ring.tail := by
  obtain ⟨_, _, _, h, _⟩ := h
  cases hr : s.ring with
  | nil => intro c hc; simp at hc
  | cons c l =>
    rw [hr] at h
    split at h
    · exact h
    · exact (low_cons.1 h).2
theorem serve_ok {c : Cl} {rest : List Cl} {cr : Int} (hp : p.ok) (hl : ((c :: rest).length : Int) ≤ p.clients) (ho : ∀ d ∈ c :: rest, d.ok p) (hd : (c :: rest).Pairwise (fun a b => a.n ≠ b.n)) (hw : low p rest) (h1 : headK c ≤ cr) (h2 : cr < p.most + p.quantum) :
    (serve c rest cr).1.ok p ∧ ∃ k x L, c.L = (k, x) :: L ∧ (serve c rest cr).2 = some (c.n, x) := by
  obtain ⟨q1, q2, q3, q4, q5⟩ := ho c (by simp)
  rcases hL : c.L with _ | ⟨⟨k, x⟩, L⟩
  · exact absurd hL q1
  · have hk : headK c = k := by simp [headK, hL]
    rw [List.pairwise_cons] at hd
    simp only [List.length_cons] at hl
    refine ⟨?_, k, x, L, rfl, by simp [serve, hL]⟩
    unfold serve
    rw [hL]
    simp only
    have hk1 := q3 (k, x) (by simp [hL])
    simp only at hk1
    split
    · exact ⟨by simp only; omega, fun d hm => ho d (by simp [hm]), hd.2, by simpa using hw, by simp⟩
    · next hne =>
      refine ⟨by simpa using hl, ?_, ?_, by simpa using hw, by simp⟩
      · intro d hm
        rcases List.mem_cons.1 hm with rfl | hm
        · refine ⟨hne, ?_, ?_, ?_, ?_⟩
          · rw [hL] at q2; simp at q2; simp only; omega
          · intro y hy; exact q3 y (by rw [hL]; simp [hy])
          · simp only; omega
          · simp only; omega
        · exact ho d (by simp [hm])
      · rw [List.pairwise_cons]
        exact ⟨fun d hm => hd.1 d hm, hd.2⟩
theorem head_le {c : Cl} (h : c.ok p) : 1 ≤ headK c ∧ headK c ≤ p.most := by
  obtain ⟨q1, q2, q3, q4, q5⟩ := h
  rcases hL : c.L with _ | ⟨⟨k, x⟩, L⟩
  · exact absurd hL q1
  · have := q3 (k, x) (by simp [hL])
    simpa [headK, hL] using this
/-- Where the first one's credit is used up: the ring has turned. -/
def turned (s : St) : St := ⟨s.ring.tail ++ s.ring.head?.toList, false⟩
theorem turned_ok (h : s.ok p) (ht : s.turn = true) (hlow : ∀ c, s.ring.head? = some c → c.cr < headK c) : (turned s).ok p := by
  obtain ⟨h1, h2, h3, h4, h5⟩ := id h
  have hlr := low_rest h
  rcases hr : s.ring with _ | ⟨c, rest⟩
  · exact absurd hr (h5 ht)
  · rw [hr] at h1 h2 h3 hlow hlr
    have hc := hlow c rfl
    have hk := head_le (h2 c (by simp))
    unfold turned
    rw [hr]
    refine ⟨by simp at h1 ⊢; omega, ?_, ?_, ?_, by simp⟩
    · intro d hd
      refine h2 d ?_
      simp at hd ⊢
      rcases hd with h | h
      · exact .inr h
      · exact .inl h
    · simp only [List.tail_cons, List.head?_cons, Option.toList_some]
      rw [List.pairwise_cons] at h3
      rw [List.pairwise_append]
      refine ⟨h3.2, by simp, fun a ha b hb => ?_⟩
      simp at hb
      subst hb
      exact (h3.1 a ha).symm
    · simp only [Bool.false_eq_true, if_false, List.tail_cons, List.head?_cons, Option.toList_some]
      rw [low_append]
      exact ⟨hlr, by intro d hd; simp at hd; subst hd; omega⟩
/-- The first one is told, if its credit is high enough. -/
theorem next_fits {c : Cl} {rest : List Cl} {t : Bool} (h : ¬ (t = true ∧ c.cr < headK c)) : nextS p ⟨c :: rest, t⟩ = serve c rest (if t then c.cr else c.cr + p.quantum) := by
  simp only [nextS]
  rw [if_neg h]
theorem next_turned {c d : Cl} {rest rest' : List Cl} (h : c.cr < headK c) (hr : rest ++ [c] = d :: rest') : nextS p ⟨c :: rest, true⟩ = serve d rest' (d.cr + p.quantum) := by
  simp only [nextS]
  rw [if_pos ⟨by simp, h⟩, hr]
theorem next_of_turned {c : Cl} {rest : List Cl} (h : c.cr < headK c) : nextS p ⟨c :: rest, true⟩ = nextS p (turned ⟨c :: rest, true⟩) := by
  simp only [nextS, turned, List.tail_cons, List.head?_cons, Option.toList_some]
  rw [if_pos ⟨by simp, h⟩]
  rcases hrr : rest ++ [c] with _ | ⟨d, r⟩
  · simp at hrr
  · simp
theorem next_ok (hp : p.ok) (h : s.ok p) : (nextS p s).1.ok p ∧ ((nextS p s).2 = none ↔ s.ring = []) := by
  obtain ⟨h1, h2, h3, h4, h5⟩ := id h
  have hlr := low_rest h
  rcases hr : s.ring with _ | ⟨c, rest⟩
  · have e : nextS p s = (s, none) := by simp [nextS, hr]
    rw [e]
    exact ⟨h, by simp⟩
  · obtain ⟨ring, turn⟩ := s
    simp only at hr h1 h2 h3 h4 h5 hlr
    subst hr
    simp only [List.tail_cons] at hlr
    have hk := head_le (h2 c (by simp))
    obtain ⟨q1, q2, q3, q4, q5⟩ := h2 c (by simp)
    by_cases hc : turn = true ∧ c.cr < headK c
    · obtain ⟨rfl, hc⟩ := hc
      rcases hrr : rest ++ [c] with _ | ⟨d, rest'⟩
      · simp at hrr
      · rw [next_turned hc hrr]
        have ht := turned_ok (p := p) h rfl (by intro c' e; simp at e; subst e; exact hc)
        unfold turned at ht
        simp only [List.tail_cons, List.head?_cons, Option.toList_some] at ht
        rw [hrr] at ht
        obtain ⟨t1, t2, t3, t4, t5⟩ := ht
        simp only [Bool.false_eq_true, if_false] at t4
        have hd := head_le (t2 d (by simp))
        obtain ⟨d1, d2, d3, d4, d5⟩ := t2 d (by simp)
        have hlo := low_cons.1 t4
        unfold Par.ok at hp
        obtain ⟨r1, k, x, L, r2, r3⟩ := serve_ok (p := p) hp t1 t2 t3 hlo.2 (cr := d.cr + p.quantum) (by omega) (by omega)
        exact ⟨r1, by rw [r3]; simp⟩
    · rw [next_fits hc]
      unfold Par.ok at hp
      have hcr : headK c ≤ (if turn = true then c.cr else c.cr + p.quantum) ∧ (if turn = true then c.cr else c.cr + p.quantum) < p.most + p.quantum := by
        cases turn
        · simp at h4 ⊢
          have := (low_cons.1 h4).1
          omega
        · simp at hc ⊢
          omega
      obtain ⟨r1, k, x, L, r2, r3⟩ := serve_ok (p := p) hp h1 h2 h3 hlr hcr.1 hcr.2
      exact ⟨r1, by rw [r3]; simp⟩
theorem put_ok {n cost x : Int} (hp : p.ok) (h : s.ok p) : (putS p s n cost x).1.ok p := by
  obtain ⟨h1, h2, h3, h4, h5⟩ := id h
  by_cases hc : cost < 1 ∨ p.most < cost
  · unfold putS; rw [if_pos hc]; exact h
  · have hc' : 1 ≤ cost ∧ cost ≤ p.most := by omega
    unfold Par.ok at hp
    rcases split_at s n with hno | ⟨R1, c, R2, hR, rfl⟩
    · rw [put_new hc' hno]
      split
      · exact h
      · refine ⟨by simp; omega, ?_, ?_, ?_, by simp⟩
        · intro d hd
          rcases List.mem_append.1 hd with hd | hd
          · exact h2 d hd
          · simp at hd; subst hd
            refine ⟨by simp, by simp; omega, by simp; omega, by simp, by simp only; omega⟩
        · simp only
          rw [List.pairwise_append]
          exact ⟨h3, by simp, fun a ha b hb => by simp at hb; subst hb; exact hno a ha⟩
        · simp only
          cases ht : s.turn
          · rw [ht] at h4
            simp only [Bool.false_eq_true, if_false] at h4 ⊢
            rw [low_append]
            exact ⟨h4, by intro d hd; simp at hd; subst hd; simp only; omega⟩
          · rw [ht] at h4
            simp only [if_true] at h4 ⊢
            rw [List.tail_append_of_ne_nil (h5 ht), low_append]
            exact ⟨h4, by intro d hd; simp at hd; subst hd; simp only; omega⟩
    · obtain ⟨ring, turn⟩ := s
      simp only at hR h1 h2 h3 h4 h5
      subst hR
      rw [put_there hc' h3]
      split
      · exact h
      · next hlt =>
        obtain ⟨q1, q2, q3, q4, q5⟩ := h2 c (by simp)
        refine ⟨by simpa using h1, ?_, ?_, ?_, by simp⟩
        · intro d hd
          rw [List.mem_append, List.mem_cons] at hd
          rcases hd with hd | rfl | hd
          · exact h2 d (by simp [hd])
          · refine ⟨by simp, by simp; omega, ?_, q4, q5⟩
            intro y hy
            simp at hy
            rcases hy with hy | rfl
            · exact q3 y hy
            · exact hc'
          · exact h2 d (by simp [hd])
        · simp only
          rw [List.pairwise_append, List.pairwise_cons] at h3 ⊢
          refine ⟨h3.1, ⟨h3.2.1.1, h3.2.1.2⟩, fun a ha b hb => ?_⟩
          rcases List.mem_cons.1 hb with rfl | hb
          · exact h3.2.2 a ha c (by simp)
          · exact h3.2.2 a ha b (by simp [hb])
        · simp only at h4 ⊢
          cases turn
          · simp only [Bool.false_eq_true, if_false, low_append, low_cons] at h4 ⊢
            exact h4
          · cases R1 with
            | nil => simpa using h4
            | cons a R1 =>
              simp only [if_true, List.cons_append, List.tail_cons, low_append, low_cons] at h4 ⊢
              exact h4
theorem drop_ok {n : Int} (h : s.ok p) : (dropS s n).1.ok p := by
  obtain ⟨h1, h2, h3, h4, h5⟩ := id h
  have hlr := low_rest h
  rcases split_at s n with hno | ⟨R1, c, R2, hR, rfl⟩
  · rw [drop_none hno]; exact h
  · obtain ⟨ring, turn⟩ := s
    simp only at hR h1 h2 h3 h4 h5 hlr
    subst hR
    rw [drop_there h3]
    refine ⟨by simp at h1 ⊢; omega, fun d hd => h2 d ?_, ?_, ?_, ?_⟩
    · rw [List.mem_append] at hd
      rw [List.mem_append, List.mem_cons]
      rcases hd with hd | hd
      · exact .inl hd
      · exact .inr (.inr hd)
    · simp only
      rw [List.pairwise_append, List.pairwise_cons] at h3
      rw [List.pairwise_append]
      exact ⟨h3.1, h3.2.1.2, fun a ha b hb => h3.2.2 a ha b (by simp [hb])⟩
    · simp only
      cases R1 with
      | nil => simpa using hlr
      | cons a R1 =>
        simp only [List.cons_append, List.tail_cons] at hlr ⊢
        cases turn
        · simp only [Bool.false_eq_true, if_false, ite_self, List.cons_append, low_append, low_cons] at h4 ⊢
          exact ⟨h4.1, h4.2.1, h4.2.2.2⟩
        · simp only [if_true, List.cons_append, List.tail_cons, low_append, low_cons, reduceCtorEq, if_false] at h4 ⊢
          exact ⟨h4.1, h4.2.2⟩
    · cases R1 with
      | nil => simp
      | cons a R1 => simp
theorem len_le (h : s.ok p) (hp : p.ok) : lenS s ≤ 65536 := by
  obtain ⟨h1, h2, _⟩ := h
  unfold Par.ok at hp
  have e : ∀ l : List Cl, (∀ c ∈ l, c.ok p) → (l.map fun c => c.L.length).sum ≤ l.length * 64 := by
    intro l
    induction l with
    | nil => simp
    | cons c l ih =>
      intro h
      have hc := (h c (by simp)).2.1
      have := ih fun d hd => h d (by simp [hd])
      simp only [List.map_cons, List.sum_cons, List.length_cons]
      omega
  have := e s.ring h2
  unfold lenS
  omega
end
end Go.BK.DR

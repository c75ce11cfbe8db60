/- Layer 29, plainly: lists of events and their bytes. -/
import Derived.Test.YtholjbnggnfapaaScrP
namespace Go.BK.SC
set_option linter.unusedVariables false
theorem rest_len (f : F) (l : List UInt8) : (restF f l).length ≤ l.length := by cases f <;> simp [restF, F.size] <;> omega
theorem reads_len (fs : List F) (a : Ev) (l : List UInt8) : (readFs a fs l).2.length ≤ l.length := by
  induction fs generalizing a l with
  | nil => exact Nat.le_refl _
  | cons f fs ih => exact Nat.le_trans (ih _ _) (rest_len f l)
theorem ev_len (l : List UInt8) : (evS l).2.length ≤ l.length - 1 := by
  have := reads_len (fieldsS (kindS l)) (ev0 (kindS l)) (l.drop 1)
  simpa [evS] using this
theorem events_nil (f : Nat) : eventsS f [] = [] := by cases f <;> rfl
theorem events_cons (f : Nat) (l : List UInt8) (h : l ≠ []) : eventsS (f + 1) l = (evS l).1 :: eventsS f (evS l).2 := by
  cases l with
  | nil => exact absurd rfl h
  | cons x l => rfl
theorem events_fuel (f g : Nat) (l : List UInt8) (hf : l.length ≤ f) (hg : l.length ≤ g) : eventsS f l = eventsS g l := by
  induction f generalizing g l with
  | zero =>
    have : l = [] := List.length_eq_zero_iff.1 (by omega)
    subst this
    rw [events_nil, events_nil]
  | succ f ih =>
    cases l with
    | nil => rw [events_nil, events_nil]
    | cons x l =>
      cases g with
      | zero => simp at hg
      | succ g =>
        have := ev_len (x :: l)
        simp only [List.length_cons] at this hf hg
        rw [events_cons _ _ (by simp), events_cons _ _ (by simp), ih g _ (by omega) (by omega)]
theorem events_len (f : Nat) (l : List UInt8) : (eventsS f l).length ≤ l.length ∧ (eventsS f l).length ≤ f := by
  induction f generalizing l with
  | zero => simp [eventsS]
  | succ f ih =>
    cases l with
    | nil => simp [events_nil]
    | cons x l =>
      rw [events_cons _ _ (by simp)]
      have := ev_len (x :: l)
      have := ih (evS (x :: l)).2
      simp only [List.length_cons] at *
      omega
theorem lay_ne (e : Ev) (r : List UInt8) : layS e ++ r ≠ [] := by simp [layS]
theorem events_lay (L : List Ev) (hL : ∀ e ∈ L, fit e) (f : Nat) (r : List UInt8) (h : L.length ≤ f) : eventsS f (L.flatMap layS ++ r) = L ++ eventsS (f - L.length) r := by
  induction L generalizing f with
  | nil => simp
  | cons e L ih =>
    cases f with
    | zero => simp at h
    | succ f =>
      rw [List.flatMap_cons, List.append_assoc, events_cons _ _ (lay_ne _ _), fit_read (hL e (by simp))]
      rw [ih (fun x hx => hL x (by simp [hx])) f (by simpa using h)]
      simp
theorem events_back (L : List Ev) (hL : ∀ e ∈ L, fit e) (f : Nat) (h : L.length ≤ f) : eventsS f (L.flatMap layS) = L := by
  have := events_lay L hL f [] h
  rwa [List.append_nil, events_nil, List.append_nil] at this
theorem events_fit (f : Nat) (l : List UInt8) : ∀ e ∈ eventsS f l, fit e := by
  induction f generalizing l with
  | zero => simp [eventsS]
  | succ f ih =>
    cases l with
    | nil => simp [events_nil]
    | cons x l =>
      rw [events_cons _ _ (by simp)]
      intro e he
      rw [List.mem_cons] at he
      rcases he with rfl | he
      · exact read_fit _
      · exact ih _ e he
theorem num_app (s : Nat) (l r : List UInt8) (h : s ≤ l.length) : num s (l ++ r) = num s l := rdA_app s 0 l r h
theorem set_app (a : Ev) (f : F) (p r : List UInt8) (h : restF f p ≠ []) : setF a f (p ++ r) = setF a f p ∧ restF f (p ++ r) = restF f p ++ r := by
  cases f with
  | b =>
    simp only [restF] at h ⊢
    rw [List.drop_drop] at h
    have hl : 2 + num 2 p % 4097 < p.length := by
      rcases Nat.lt_or_ge (2 + num 2 p % 4097) p.length with h1 | h1
      · exact h1
      · exact absurd (List.drop_of_length_le h1) h
    have h2 := num_app 2 p r (by omega)
    have h3 : (p ++ r).drop 2 = p.drop 2 ++ r := List.drop_append_of_le_length (by omega)
    refine ⟨?_, ?_⟩
    · simp only [setF, F.size]
      rw [h2, h3, takeZ_app_le _ _ _ (by rw [List.length_drop]; omega)]
    · rw [h2, h3, List.drop_append_of_le_length (by rw [List.length_drop]; omega)]
  | who | port | conn | n | sort =>
    simp only [restF] at h ⊢
    have hl := List.length_pos_iff.2 h
    rw [List.length_drop] at hl
    refine ⟨?_, List.drop_append_of_le_length (by omega)⟩
    simp only [setF]
    rw [num_app _ _ _ (by omega)]
theorem reads_ne (fs : List F) (a : Ev) (l : List UInt8) (h : (readFs a fs l).2 ≠ []) : l ≠ [] := by
  intro e
  have := reads_len fs a l
  rw [e] at this h
  exact h (List.length_eq_zero_iff.1 (by simpa using this))
theorem reads_app (fs : List F) (a : Ev) (p r : List UInt8) (h : (readFs a fs p).2 ≠ []) : readFs a fs (p ++ r) = ((readFs a fs p).1, (readFs a fs p).2 ++ r) := by
  induction fs generalizing a p with
  | nil => rfl
  | cons f fs ih =>
    unfold readFs at h ⊢
    have h1 := set_app a f p r (reads_ne _ _ _ h)
    rw [h1.1, h1.2]
    exact ih _ _ h
theorem ev_app (p r : List UInt8) (h : (evS p).2 ≠ []) : evS (p ++ r) = ((evS p).1, (evS p).2 ++ r) := by
  cases p with
  | nil => exact absurd (List.length_eq_zero_iff.1 (by have := ev_len []; simpa using this)) h
  | cons x p =>
    unfold evS at h ⊢
    rw [List.cons_append, kind_cons x (p ++ r) p]
    simp only [List.drop_succ_cons, List.drop_zero] at h ⊢
    exact reads_app _ _ _ _ h
/-- Of bytes that are cut short all events but the last are the same, and its kind. -/
theorem events_cut (f : Nat) (p r : List UInt8) : eventsS f p = [] ∨ ∃ D e e' rest, eventsS f p = D ++ [e] ∧ eventsS f (p ++ r) = D ++ e' :: rest ∧ e.kind = e'.kind := by
  induction f generalizing p with
  | zero => exact .inl rfl
  | succ f ih =>
    cases p with
    | nil => exact .inl rfl
    | cons x p =>
      right
      rw [List.cons_append, events_cons f (x :: p) (by simp), events_cons f (x :: (p ++ r)) (by simp)]
      by_cases h : (evS (x :: p)).2 = []
      · refine ⟨[], _, _, _, by rw [h, events_nil]; rfl, rfl, ?_⟩
        rw [ev_kind, ev_kind, kind_cons x p (p ++ r)]
      · have e := ev_app (x :: p) r h
        rw [List.cons_append] at e
        rw [e]
        rcases ih (evS (x :: p)).2 with h1 | ⟨D, e1, e2, rest, h1, h2, h3⟩
        · exact ⟨[], _, _, _, by rw [h1]; rfl, rfl, rfl⟩
        · exact ⟨(evS (x :: p)).1 :: D, e1, e2, rest, by rw [h1]; rfl, by rw [h2]; rfl, h3⟩
end Go.BK.SC

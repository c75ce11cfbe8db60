/- DrrFair, the plain law: nobody gets much more than another one. -/
import Derived.Test.YtkogagpahidenaaDrrP
namespace Go.BK.DR
set_option linter.unusedVariables false

/-- What a client has been told so far, and its credit. -/
def up (tot : Int → Int) (c : Cl) : Int := tot c.n + c.cr
/-- The first one is least, the others follow upwards, none more than a quantum above it; what was told was added up in tot. -/
def Fair (p : Par) (tot : Int → Int) (s : St) : Prop :=
  match s.ring with
  | [] => True
  | c :: rest => (∀ d ∈ rest, up tot c - (if s.turn then p.quantum else 0) ≤ up tot d ∧ up tot d ≤ up tot c - (if s.turn then p.quantum else 0) + p.quantum) ∧ rest.Pairwise fun a b => up tot a ≤ up tot b
def addT (tot : Int → Int) (n w : Int) : Int → Int := fun k => if k = n then tot k + w else tot k
theorem up_other {tot : Int → Int} {n w : Int} {c : Cl} (h : c.n ≠ n) : up (addT tot n w) c = up tot c := by simp [up, addT, h]
/-- Each has items that stay, each bears its cost as its number. -/
def Two (s : St) : Prop := ∀ c ∈ s.ring, c.L.length = 2 ∧ ∀ x ∈ c.L, x.1 = x.2
theorem fair_turned {p : Par} {tot : Int → Int} {s : St} (hp : p.ok) (h : Fair p tot s) (ht : s.turn = true) : Fair p tot (turned s) := by
  obtain ⟨ring, t⟩ := s
  simp only at ht
  subst ht
  unfold Par.ok at hp
  cases ring with
  | nil => trivial
  | cons c rest =>
    obtain ⟨h1, h2⟩ := h
    simp only [if_true] at h1
    unfold turned
    simp only [List.tail_cons, List.head?_cons, Option.toList_some]
    cases rest with
    | nil => exact ⟨by simp, by simp⟩
    | cons d rest =>
      rw [List.pairwise_cons] at h2
      refine ⟨?_, ?_⟩
      · intro x hx
        have hd := h1 d (by simp)
        simp only [Bool.false_eq_true, if_false, Int.sub_zero]
        have hx' : x ∈ rest ∨ x = c := by
          change x ∈ rest ++ [c] at hx
          simpa using hx
        rcases hx' with hx' | rfl
        · have hx2 := h1 x (by simp [hx'])
          have := h2.1 x hx'
          omega
        · omega
      · change (rest ++ [c]).Pairwise _
        rw [List.pairwise_append]
        refine ⟨h2.2, by simp, fun a ha b hb => ?_⟩
        simp at hb
        subst hb
        have := h1 a (by simp [ha])
        omega
/-- One Next. -/
theorem fair_served {p : Par} {tot : Int → Int} {c : Cl} {rest : List Cl} {t : Bool} {k x : Int} {L : List (Int × Int)} (hs : (⟨c :: rest, t⟩ : St).ok p) (hL : c.L = (k, x) :: L) (hLn : L ≠ []) (h : Fair p tot ⟨c :: rest, t⟩) :
    Fair p (addT tot c.n k) (serve c rest (if t then c.cr else c.cr + p.quantum)).1 := by
  rw [serve_cons hL]
  simp only [hLn, if_false]
  obtain ⟨h1, h2⟩ := h
  have hd := hs.2.2.1
  simp only at hd
  rw [List.pairwise_cons] at hd
  have e : ∀ d ∈ rest, up (addT tot c.n k) d = up tot d := fun d hm => up_other (hd.1 d hm).symm
  have e2 : up (addT tot c.n k) ⟨c.n, (if t then c.cr else c.cr + p.quantum) - k, L⟩ - p.quantum = up tot c - (if t = true then p.quantum else 0) := by
    simp only [up, addT, if_true]
    cases t <;> simp <;> omega
  refine ⟨?_, ?_⟩
  · intro d hm
    simp only [if_true]
    rw [e2, e d hm]
    exact h1 d hm
  · exact h2.imp_of_mem fun {a b} ha hb hab => by rw [e a ha, e b hb]; exact hab
theorem fair_next {p : Par} {tot : Int → Int} {s : St} (hp : p.ok) (hs : s.ok p) (h : Fair p tot s) (h2 : ∀ c ∈ s.ring, 2 ≤ c.L.length) (hne : s.ring ≠ []) :
    ∃ c ∈ s.ring, ∃ k x L, c.L = (k, x) :: L ∧ (nextS p s).2 = some (c.n, x) ∧ Fair p (addT tot c.n k) (nextS p s).1 ∧
      ∃ R1 R2 cr, (nextS p s).1.ring = R1 ++ ⟨c.n, cr, L⟩ :: R2 ∧ (∀ d, d ∈ R1 ++ R2 ↔ d ∈ s.ring ∧ d ≠ c) := by
  have fit : ∀ (c : Cl) (rest : List Cl) (t : Bool), (⟨c :: rest, t⟩ : St).ok p → Fair p tot ⟨c :: rest, t⟩ → 2 ≤ c.L.length → ¬ (t = true ∧ c.cr < headK c) →
      ∃ k x L, c.L = (k, x) :: L ∧ (nextS p ⟨c :: rest, t⟩).2 = some (c.n, x) ∧ Fair p (addT tot c.n k) (nextS p ⟨c :: rest, t⟩).1 ∧ ∃ cr, (nextS p ⟨c :: rest, t⟩).1.ring = ⟨c.n, cr, L⟩ :: rest := by
    intro c rest t hs hf hl hfit
    rw [next_fits hfit]
    rcases hL : c.L with _ | ⟨⟨k, x⟩, L⟩
    · rw [hL] at hl; simp at hl
    · have hLn : L ≠ [] := by rintro rfl; rw [hL] at hl; simp at hl
      refine ⟨k, x, L, rfl, by rw [serve_cons hL], fair_served hs hL hLn hf, ?_⟩
      rw [serve_cons hL]
      simp only [hLn, if_false]
      exact ⟨_, rfl⟩
  obtain ⟨ring, t⟩ := s
  cases ring with
  | nil => exact absurd rfl hne
  | cons c rest =>
    have hd := hs.2.2.1
    simp only at hd h2
    have hd' := hd
    rw [List.pairwise_cons] at hd
    by_cases hfit : t = true ∧ c.cr < headK c
    · obtain ⟨rfl, hlow⟩ := hfit
      rw [next_of_turned hlow]
      have ht := turned_ok hs rfl (by intro c' e; simp at e; subst e; exact hlow)
      have hf := fair_turned hp h rfl
      unfold turned at ht hf ⊢
      simp only [List.tail_cons, List.head?_cons, Option.toList_some] at ht hf ⊢
      cases rest with
      | nil =>
        obtain ⟨k, x, L, r1, r2, r3, cr, r4⟩ := fit c [] false ht hf (h2 c (by simp)) (by simp)
        exact ⟨c, by simp, k, x, L, r1, r2, r3, [], [], cr, r4, fun d => by simp⟩
      | cons d rest =>
        obtain ⟨k, x, L, r1, r2, r3, cr, r4⟩ := fit d (rest ++ [c]) false ht hf (h2 d (by simp)) (by simp)
        refine ⟨d, by simp, k, x, L, r1, r2, r3, [], rest ++ [c], cr, r4, fun y => ?_⟩
        rw [List.pairwise_cons] at hd
        simp only [List.nil_append, List.mem_append, List.mem_cons, List.not_mem_nil, or_false]
        constructor
        · rintro (hy | rfl)
          · exact ⟨.inr (.inr hy), fun e => by subst e; exact hd.2.1 y hy rfl⟩
          · exact ⟨.inl rfl, fun e => by subst e; exact hd.1 y (by simp) rfl⟩
        · rintro ⟨hy | hy | hy, hne⟩
          · exact .inr hy
          · exact absurd hy hne
          · exact .inl hy
    · obtain ⟨k, x, L, r1, r2, r3, cr, r4⟩ := fit c rest t hs h (h2 c (by simp)) hfit
      refine ⟨c, by simp, k, x, L, r1, r2, r3, [], rest, cr, r4, fun y => ?_⟩
      simp only [List.nil_append, List.mem_cons]
      constructor
      · intro hy
        exact ⟨.inr hy, fun e => by subst e; exact hd.1 y hy rfl⟩
      · rintro ⟨hy | hy, hne⟩
        · exact absurd hy hne
        · exact hy
/-- What a client puts changes nothing of it. -/
theorem fair_put {p : Par} {tot : Int → Int} {s : St} {a cost x : Int} (hs : s.ok p) (h : Fair p tot s) (ha : ∃ c ∈ s.ring, c.n = a) : Fair p tot (putS p s a cost x).1 := by
  by_cases hc : cost < 1 ∨ p.most < cost
  · unfold putS; rw [if_pos hc]; exact h
  · have hc' : 1 ≤ cost ∧ cost ≤ p.most := by omega
    obtain ⟨c, hc, rfl⟩ := ha
    obtain ⟨ring, t⟩ := s
    simp only at hc
    obtain ⟨R1, R2, rfl⟩ := List.append_of_mem hc
    have hd := hs.2.2.1
    simp only at hd
    rw [put_there hc' hd]
    split
    · exact h
    · cases R1 with
      | nil => exact h
      | cons b R1 =>
        obtain ⟨h1, h2⟩ := h
        refine ⟨?_, ?_⟩
        · intro d hm
          change d ∈ R1 ++ ⟨c.n, c.cr, c.L ++ [(cost, x)]⟩ :: R2 at hm
          rw [List.mem_append, List.mem_cons] at hm
          rcases hm with hm | rfl | hm
          · exact h1 d (by simp [hm])
          · exact h1 c (by simp)
          · exact h1 d (by simp [hm])
        · change (R1 ++ ⟨c.n, c.cr, c.L ++ [(cost, x)]⟩ :: R2).Pairwise _
          change (R1 ++ c :: R2).Pairwise _ at h2
          rw [List.pairwise_append, List.pairwise_cons] at h2 ⊢
          refine ⟨h2.1, ⟨h2.2.1.1, h2.2.1.2⟩, fun a ha b hb => ?_⟩
          rcases List.mem_cons.1 hb with rfl | hb
          · exact h2.2.2 a ha c (by simp)
          · exact h2.2.2 a ha b (by simp [hb])
/-- A new client behind others whose turns have not begun. -/
theorem fair_start {p : Par} {ring : List Cl} (h : ∀ c ∈ ring, c.cr = 0) (hp : p.ok) : Fair p (fun _ => 0) ⟨ring, false⟩ := by
  unfold Par.ok at hp
  cases ring with
  | nil => trivial
  | cons c rest =>
    have e : ∀ d ∈ c :: rest, up (fun _ => 0) d = 0 := fun d hd => by simp [up, h d hd]
    refine ⟨?_, ?_⟩
    · intro d hd
      have h1 := e c (by simp)
      have h2 := e d (by simp [hd])
      simp
      omega
    · refine List.pairwise_iff_getElem.2 fun i j hi hj hij => ?_
      have h1 := e rest[i] (by simp)
      have h2 := e rest[j] (by simp)
      omega
/-- What two clients were told, at any time. -/
theorem fair_bound {p : Par} {tot : Int → Int} {s : St} (hp : p.ok) (hs : s.ok p) (h : Fair p tot s) {a b : Cl} (ha : a ∈ s.ring) (hb : b ∈ s.ring) : tot a.n - tot b.n ≤ p.quantum + p.most := by
  obtain ⟨ring, t⟩ := s
  simp only at ha hb
  obtain ⟨s1, s2, s3, s4, s5⟩ := hs
  simp only at s1 s2 s3 s4 s5
  unfold Par.ok at hp
  cases ring with
  | nil => cases ha
  | cons c rest =>
    obtain ⟨h1, h2⟩ := h
    simp only at h1
    have ka := (s2 a ha).2.2.2
    have kb := (s2 b hb).2.2.2
    have lowr : ∀ d ∈ rest, d.cr < p.most := by
      intro d hd
      cases t
      · simp at s4; exact s4 d (by simp [hd])
      · simp at s4; exact s4 d hd
    have lowc : t = false → c.cr < p.most := by
      rintro rfl
      simp at s4; exact s4 c (by simp)
    have pw : ∀ x ∈ rest, ∀ y ∈ rest, up tot x - up tot y ≤ p.quantum := by
      intro x hx y hy
      have := h1 x hx; have := h1 y hy
      omega
    rcases List.mem_cons.1 ha with e1 | ha'
    · rcases List.mem_cons.1 hb with e2 | hb'
      · subst e1; rw [e2]; omega
      · subst e1
        have q1 := h1 b hb'
        have q2 := lowr b hb'
        unfold up at q1
        cases t <;> simp at q1 <;> omega
    · rcases List.mem_cons.1 hb with e2 | hb'
      · subst e2
        have q1 := h1 a ha'
        unfold up at q1
        cases t
        · have := lowc rfl
          simp at q1; omega
        · simp at q1; omega
      · have q1 := pw a ha' b hb'
        have q2 := lowr b hb'
        unfold up at q1
        omega
end Go.BK.DR

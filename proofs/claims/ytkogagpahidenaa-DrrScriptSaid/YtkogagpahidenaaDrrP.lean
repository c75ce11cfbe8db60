/- DrrServes, the plain law: an item that is waited for comes nearer with each Next. -/
import Derived.Test.YtkogagpahidenaaDrrS
namespace Go.BK.DR
set_option linter.unusedVariables false

/-- How many Nexts at most are ahead of the m-th item of the client behind X and ahead of Y; B: how many items a turn has at most. -/
def pot (B m : Nat) (t : Bool) (X Y : List Cl) : Nat :=
  match X with
  | [] => m + Y.length * (if t then m * B else (m - 1) * B)
  | x :: X' => m + (if t then (m - 1) * B + x.cr.toNat else m * B) + X'.length * (m * B) + Y.length * ((m - 1) * B)
/-- The client n waits for its m-th item, which bears the number q. -/
def Wait (p : Par) (s : St) (n q : Int) (F : Nat) : Prop :=
  ∃ X c Y m k, s.ring = X ++ c :: Y ∧ c.n = n ∧ 1 ≤ m ∧ c.L[m - 1]? = some (k, q) ∧ pot (p.quantum + p.most).toNat m s.turn X Y ≤ F
theorem wait_pos {p : Par} {s : St} {n q : Int} {F : Nat} (h : Wait p s n q F) : 0 < F := by
  obtain ⟨X, c, Y, m, k, _, _, hm, _, hF⟩ := h
  unfold pot at hF
  split at hF <;> omega
theorem wait_mono {p : Par} {s : St} {n q : Int} {F G : Nat} (h : Wait p s n q F) (hl : F ≤ G) : Wait p s n q G := by
  obtain ⟨X, c, Y, m, k, h1, h2, h3, h4, h5⟩ := h
  exact ⟨X, c, Y, m, k, h1, h2, h3, h4, Nat.le_trans h5 hl⟩
theorem wait_ne {p : Par} {s : St} {n q : Int} {F : Nat} (h : Wait p s n q F) : s.ring ≠ [] := by
  obtain ⟨X, c, Y, m, k, h1, _⟩ := h
  rw [h1]; simp
theorem serve_cons {c : Cl} {rest : List Cl} {cr k x : Int} {L : List (Int × Int)} (h : c.L = (k, x) :: L) :
    serve c rest cr = (if L = [] then ⟨rest, false⟩ else ⟨⟨c.n, cr - k, L⟩ :: rest, true⟩, some (c.n, x)) := by
  unfold serve; rw [h]
theorem mB {m B : Nat} (hm : 1 ≤ m) : m * B = (m - 1) * B + B := by
  obtain ⟨j, rfl⟩ := Nat.exists_eq_add_of_le hm
  rw [Nat.add_sub_cancel_left, Nat.add_mul, Nat.one_mul, Nat.add_comm]
theorem lenB (l : Nat) (K : Nat) : (l + 1) * K = l * K + K := by rw [Nat.add_mul, Nat.one_mul]
/-- The ring turns: nobody is further away. -/
theorem wait_turned {p : Par} {c0 : Cl} {rest : List Cl} {n q : Int} {F : Nat} (h : Wait p ⟨c0 :: rest, true⟩ n q F) : Wait p (turned ⟨c0 :: rest, true⟩) n q F := by
  obtain ⟨X, c, Y, m, k, h1, h2, hm, h4, h5⟩ := h
  unfold turned
  simp only [List.tail_cons, List.head?_cons, Option.toList_some] at h1 h5 ⊢
  have e1 := mB (B := (p.quantum + p.most).toNat) hm
  cases X with
  | nil =>
    simp at h1
    obtain ⟨rfl, rfl⟩ := h1
    refine ⟨rest, c0, [], m, k, rfl, h2, hm, h4, Nat.le_trans ?_ h5⟩
    cases rest with
    | nil => simp [pot]
    | cons y Y => simp [pot, lenB]; omega
  | cons x X =>
    simp at h1
    obtain ⟨rfl, rfl⟩ := h1
    refine ⟨X, c, Y ++ [c0], m, k, by simp, h2, hm, h4, Nat.le_trans ?_ h5⟩
    cases X with
    | nil => simp [pot, lenB]; omega
    | cons y Y => simp [pot, lenB]; omega
theorem wait_served {p : Par} {c0 : Cl} {rest : List Cl} {t : Bool} {n q : Int} {F : Nat} (hp : p.ok) (hs : (⟨c0 :: rest, t⟩ : St).ok p) (hf : ¬ (t = true ∧ c0.cr < headK c0)) (h : Wait p ⟨c0 :: rest, t⟩ n q F) :
    ∃ a b, (nextS p ⟨c0 :: rest, t⟩).2 = some (a, b) ∧ ((a = n ∧ b = q) ∨ ∃ G, G < F ∧ Wait p (nextS p ⟨c0 :: rest, t⟩).1 n q G) := by
  rw [next_fits hf]
  obtain ⟨X, c, Y, m, k, h1, h2, hm, h4, h5⟩ := h
  simp only at h1 h5
  obtain ⟨s1, s2, s3, s4, s5⟩ := hs
  simp only at s1 s2 s3 s4
  obtain ⟨q1, q2, q3, q4, q5⟩ := s2 c0 (by simp)
  rcases hL : c0.L with _ | ⟨⟨k0, x0⟩, L⟩
  · exact absurd hL q1
  have hk : headK c0 = k0 := by simp [headK, hL]
  have hk0 := q3 (k0, x0) (by simp [hL])
  simp only at hk0
  rw [hk] at hf
  rw [serve_cons hL]
  have e1 := mB (B := (p.quantum + p.most).toNat) hm
  unfold Par.ok at hp
  have hB : 1 ≤ (p.quantum + p.most).toNat := by omega
  have hcr : 0 ≤ (if t = true then c0.cr else c0.cr + p.quantum) - k0 ∧ ((if t = true then c0.cr else c0.cr + p.quantum) - k0).toNat < (p.quantum + p.most).toNat := by
    cases t
    · simp at s4 ⊢
      have := (low_cons.1 s4).1
      omega
    · simp at hf ⊢
      omega
  generalize hB0 : (p.quantum + p.most).toNat = B at *
  refine ⟨c0.n, x0, rfl, ?_⟩
  cases X with
  | nil =>
    simp at h1
    obtain ⟨rfl, rfl⟩ := h1
    by_cases hm1 : m = 1
    · subst hm1
      rw [hL] at h4
      simp at h4
      exact .inl ⟨h2, h4.2⟩
    · refine .inr ⟨(m - 1) + rest.length * ((m - 1) * B), ?_, ?_⟩
      · refine Nat.lt_of_lt_of_le ?_ h5
        simp only [pot]
        have : rest.length * ((m - 1) * B) ≤ rest.length * (m * B) := Nat.mul_le_mul_left _ (by omega)
        cases t <;> simp <;> omega
      · have h4' : L[m - 1 - 1]? = some (k, q) := by
          rw [hL] at h4
          rw [show m - 1 = (m - 1 - 1) + 1 from by omega] at h4
          simpa using h4
        have hLne : L ≠ [] := by rintro rfl; simp at h4'
        simp only [hLne, if_false]
        refine ⟨[], _, rest, m - 1, k, rfl, h2, by omega, h4', ?_⟩
        rw [hB0]
        simp [pot]
  | cons x X =>
    simp at h1
    obtain ⟨rfl, rfl⟩ := h1
    simp only [pot] at h5
    refine .inr ?_
    by_cases hLe : L = []
    · simp only [hLe, if_true]
      refine ⟨F - 1, ?_, X, c, Y, m, k, rfl, h2, hm, h4, ?_⟩
      · cases t
        · simp at h5; omega
        · simp at h5; omega
      · rw [hB0]
        have hc1 : t = true → 1 ≤ c0.cr.toNat := by
          intro e; subst e
          simp at hf
          omega
        cases X with
        | nil =>
          simp [pot] at h5 ⊢
          cases t
          · simp at h5; omega
          · have := hc1 rfl
            simp at h5; omega
        | cons y X =>
          simp [pot, lenB] at h5 ⊢
          cases t
          · simp at h5; omega
          · have := hc1 rfl
            simp at h5; omega
    · simp only [hLe, if_false]
      refine ⟨F - 1, ?_, _ :: X, c, Y, m, k, rfl, h2, hm, h4, ?_⟩
      · cases t
        · simp at h5; omega
        · simp at h5; omega
      · rw [hB0]
        simp only [pot, if_true]
        cases t
        · simp at h5 hcr ⊢; omega
        · simp at h5 hcr ⊢; omega
/-- It is told, or it comes nearer. -/
theorem wait_next {p : Par} {s : St} {n q : Int} {F : Nat} (hp : p.ok) (hs : s.ok p) (h : Wait p s n q F) :
    ∃ a b, (nextS p s).2 = some (a, b) ∧ ((a = n ∧ b = q) ∨ ∃ G, G < F ∧ Wait p (nextS p s).1 n q G) := by
  obtain ⟨ring, t⟩ := s
  cases ring with
  | nil => exact absurd rfl (wait_ne h)
  | cons c0 rest =>
    by_cases hf : t = true ∧ c0.cr < headK c0
    · obtain ⟨rfl, hf⟩ := hf
      rw [next_of_turned hf]
      have ht := turned_ok hs rfl (by intro c e; simp at e; subst e; exact hf)
      have hw := wait_turned h
      unfold turned at ht hw ⊢
      simp only [List.tail_cons, List.head?_cons, Option.toList_some] at ht hw ⊢
      rcases hr : rest ++ [c0] with _ | ⟨d, r⟩
      · simp at hr
      · rw [hr] at ht hw
        exact wait_served hp ht (by simp) hw
    · exact wait_served hp hs hf h
/-- Another one that is queued puts something: nothing is further away. -/
theorem wait_put {p : Par} {s : St} {n q a cost x : Int} {F : Nat} (hs : s.ok p) (h : Wait p s n q F) (ha : a ≠ n) (hq : ∃ d ∈ s.ring, d.n = a) : Wait p (putS p s a cost x).1 n q F := by
  by_cases hc : cost < 1 ∨ p.most < cost
  · unfold putS; rw [if_pos hc]; exact h
  · have hc' : 1 ≤ cost ∧ cost ≤ p.most := by omega
    obtain ⟨d, hd, rfl⟩ := hq
    obtain ⟨s1, s2, s3, s4, s5⟩ := hs
    obtain ⟨ring, t⟩ := s
    simp only at hd s3
    obtain ⟨R1, R2, rfl⟩ := List.append_of_mem hd
    rw [put_there hc' s3]
    split
    · exact h
    · obtain ⟨X, c, Y, m, k, h1, h2, hm, h4, h5⟩ := h
      simp only at h1 h5 ⊢
      -- the client stands ahead of d, or behind it
      rw [List.append_eq_append_iff] at h1
      rcases h1 with ⟨as, hX, hY⟩ | ⟨bs, hR, hY⟩
      · -- d stands ahead: X = R1 ++ as, d :: R2 = as ++ c :: Y
        cases as with
        | nil =>
          simp at hY
          exact absurd (by rw [← h2, hY.1]) ha
        | cons a0 as =>
          simp at hY
          obtain ⟨rfl, rfl⟩ := hY
          refine ⟨R1 ++ ⟨d.n, d.cr, d.L ++ [(cost, x)]⟩ :: as, c, Y, m, k, by simp, h2, hm, h4, Nat.le_trans (Nat.le_of_eq ?_) h5⟩
          subst hX
          cases R1 <;> simp [pot]
      · cases bs with
        | nil =>
          simp at hY
          exact absurd (by rw [← h2, ← hY.1]) ha
        | cons b0 bs =>
          simp at hY
          obtain ⟨rfl, rfl⟩ := hY
          refine ⟨X, c, bs ++ ⟨d.n, d.cr, d.L ++ [(cost, x)]⟩ :: R2, m, k, by simp [hR], h2, hm, h4, Nat.le_trans (Nat.le_of_eq ?_) h5⟩
          cases X <;> simp [pot]
/-- What is put behind k others of its client. -/
theorem wait_begin {p : Par} {s : St} {n cost q : Int} (hp : p.ok) (hs : s.ok p) (h : (putS p s n cost q).2 = 0) :
    Wait p (putS p s n cost q).1 n q ((ofS s n + 1) * ((putS p s n cost q).1.ring.length * (p.quantum + p.most).toNat)) := by
  have hp' := hp
  unfold Par.ok at hp'
  have hB : 1 ≤ (p.quantum + p.most).toNat := by omega
  have bound : ∀ (m : Nat) (t : Bool) (X : List Cl) (c : Cl) (Y : List Cl), 1 ≤ m → (⟨X ++ c :: Y, t⟩ : St).ok p → pot (p.quantum + p.most).toNat m t X Y ≤ m * ((X ++ c :: Y).length * (p.quantum + p.most).toNat) := by
    intro m t X c Y hm hok
    have e1 := mB (B := (p.quantum + p.most).toNat) hm
    have e2 : m * ((X ++ c :: Y).length * (p.quantum + p.most).toNat) = X.length * (m * (p.quantum + p.most).toNat) + Y.length * (m * (p.quantum + p.most).toNat) + m * (p.quantum + p.most).toNat := by
      rw [Nat.mul_left_comm]
      simp only [List.length_append, List.length_cons, Nat.add_mul, Nat.one_mul]
      omega
    rw [e2]
    have hmB : m ≤ m * (p.quantum + p.most).toNat := Nat.le_mul_of_pos_right _ hB
    have hY : Y.length * ((m - 1) * (p.quantum + p.most).toNat) ≤ Y.length * (m * (p.quantum + p.most).toNat) := Nat.mul_le_mul_left _ (by omega)
    cases X with
    | nil => cases t <;> simp [pot] <;> omega
    | cons x X =>
      have hx := (hok.2.1 x (by simp)).2.2.2
      simp only [pot, List.length_cons, lenB]
      cases t <;> simp <;> omega
  have hok := put_ok (n := n) (cost := cost) (x := q) hp hs
  by_cases hc : cost < 1 ∨ p.most < cost
  · exfalso; revert h; unfold putS; rw [if_pos hc]; simp
  · have hc' : 1 ≤ cost ∧ cost ≤ p.most := by omega
    rcases split_at s n with hno | ⟨R1, c, R2, hR, rfl⟩
    · have h0 : ofS s n = 0 := by unfold ofS; rw [find_none hno]; rfl
      rw [put_new hc' hno] at h hok ⊢
      rw [h0]
      split at h
      · simp at h
      · rename_i hlt
        simp only [hlt, if_false] at hok ⊢
        refine ⟨s.ring, _, [], 1, cost, rfl, rfl, Nat.le_refl _, by simp, ?_⟩
        have := bound 1 s.turn s.ring ⟨n, 0, [(cost, q)]⟩ [] (Nat.le_refl _) hok
        simpa using this
    · obtain ⟨ring, t⟩ := s
      simp only at hR
      subst hR
      have s3 := hs.2.2.1
      simp only at s3
      have h0 : ofS ⟨R1 ++ c :: R2, t⟩ c.n = c.L.length := by unfold ofS; rw [find_some t s3]; rfl
      rw [put_there hc' s3] at h hok ⊢
      rw [h0]
      split at h
      · simp at h
      · rename_i hlt
        simp only [hlt, if_false] at hok ⊢
        refine ⟨R1, _, R2, c.L.length + 1, cost, rfl, rfl, by omega, by simp, ?_⟩
        exact bound (c.L.length + 1) t R1 _ R2 (by omega) hok
end Go.BK.DR

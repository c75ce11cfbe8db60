/- DrrFair, the plain law, as its rounds want it. -/
import Derived.Test.YtkogagpahidenaaDrrQ
namespace Go.BK.DR
set_option linter.unusedVariables false
/-- The clients 0 to m - 1, each with two items, none told yet. -/
def Line (m : Nat) (s : St) : Prop := s.turn = false ∧ s.ring.map Cl.n = (List.range m).map (fun i : Nat => (i : Int)) ∧ ∀ c ∈ s.ring, c.cr = 0 ∧ c.L.length = 2 ∧ ∀ x ∈ c.L, x.1 = x.2
def LineK (m k : Nat) (s : St) : Prop :=
  match k with
  | 0 => Line m s
  | 1 => ∃ R w, s = ⟨R ++ [⟨m, 0, [(w, w)]⟩], false⟩ ∧ Line m ⟨R, false⟩
  | _ => Line (m + 1) s
theorem line_nil : Line 0 ⟨[], false⟩ := ⟨rfl, rfl, by simp⟩
theorem line_len {m : Nat} {s : St} (h : Line m s) : s.ring.length = m := by
  have := congrArg List.length h.2.1
  simpa using this
theorem line_mem {m : Nat} {s : St} (h : Line m s) (a : Int) : (∃ c ∈ s.ring, c.n = a) ↔ 0 ≤ a ∧ a < m := by
  have e : (∃ c ∈ s.ring, c.n = a) ↔ a ∈ s.ring.map Cl.n := by simp
  rw [e, h.2.1]
  simp only [List.mem_map, List.mem_range]
  constructor
  · rintro ⟨i, hi, rfl⟩; omega
  · intro h
    exact ⟨a.toNat, by omega, by omega⟩
theorem line_put {p : Par} {m k : Nat} {s : St} {w : Int} (hs : s.ok p) (h : LineK m k s) (hk : k < 2) (hw : 1 ≤ w ∧ w ≤ p.most) (hi : p.items = 2) (hm : (m : Int) < p.clients) : (putS p s m w w).2 = 0 ∧ LineK m (k + 1) (putS p s m w w).1 := by
  rcases (show k = 0 ∨ k = 1 by omega) with rfl | rfl
  · have hno : ∀ c ∈ s.ring, c.n ≠ (m : Int) := by
      intro c hc e
      have := (line_mem h m).1 ⟨c, hc, e⟩
      omega
    have hl := line_len h
    rw [put_new hw hno, if_neg (by omega)]
    refine ⟨rfl, s.ring, w, ?_, ?_⟩
    · simp [h.1]
    · exact ⟨rfl, h.2⟩
  · obtain ⟨R, v, rfl, hR⟩ := h
    have hd := hs.2.2.1
    simp only at hd
    have e := put_there (p := p) (R1 := R) (R2 := []) (c := ⟨m, 0, [(v, v)]⟩) (t := false) (x := w) hw hd
    simp only at e
    rw [e, if_neg (by simp; omega)]
    refine ⟨rfl, rfl, ?_, ?_⟩
    · simp only [List.map_append, List.map_cons, List.map_nil]
      rw [List.range_succ, List.map_append]
      have := hR.2.1
      simp only at this
      rw [this]
      simp
    · intro c hc
      simp only [List.mem_append, List.mem_cons, List.not_mem_nil, or_false] at hc
      rcases hc with hc | rfl
      · exact hR.2.2 c hc
      · simp
structure Round (C : Nat) (p : Par) (tot tf : Int → Int) (i from_ : Nat) (s : St) : Prop where
  fair : Fair p tot s
  two : Two s
  mem : ∀ a, (∃ c ∈ s.ring, c.n = a) ↔ 0 ≤ a ∧ a < C
  till : i ≤ from_ → tf = tot
  old : ∀ a b : Int, 0 ≤ a ∧ a < C → 0 ≤ b ∧ b < C → tf b - tf a ≤ p.quantum + p.most
  low : ∀ a : Int, 0 ≤ tot a - tf a ∧ tot a - tf a ≤ 40 * i
theorem round_start {C : Nat} {p : Par} {from_ : Nat} {s : St} (hp : p.ok) (h : Line C s) : Round C p (fun _ => 0) (fun _ => 0) 0 from_ s where
  fair := by
    obtain ⟨r, t⟩ := s
    have := h.1
    simp only at this
    subst this
    exact fair_start (fun c hc => (h.2.2 c hc).1) hp
  two := fun c hc => (h.2.2 c hc).2
  mem := line_mem h
  till := fun _ => rfl
  old := fun a b _ _ => by unfold Par.ok at hp; omega
  low := fun a => by simp
theorem round_bound {C i from_ : Nat} {p : Par} {tot tf : Int → Int} {s : St} (hp : p.ok) (hs : s.ok p) (h : Round C p tot tf i from_ s) {a b : Int} (ha : 0 ≤ a ∧ a < C) (hb : 0 ≤ b ∧ b < C) :
    (tot a - tf a) - (tot b - tf b) ≤ 2 * p.quantum + 2 * p.most := by
  obtain ⟨c, hc, rfl⟩ := (h.mem a).2 ha
  obtain ⟨d, hd, rfl⟩ := (h.mem b).2 hb
  have h1 := fair_bound hp hs h.fair hc hd
  have h2 := h.old c.n d.n ha hb
  omega
theorem round_step {C i from_ : Nat} {p : Par} {tot tf : Int → Int} {s : St} (hp : p.ok) (hs : s.ok p) (h : Round C p tot tf i from_ s) (hC : 1 ≤ C) (hi : p.items = 2) (hm : p.most ≤ 40) :
    ∃ c k, (0 ≤ c ∧ c < (C : Int)) ∧ (1 ≤ k ∧ k ≤ p.most) ∧ (nextS p s).2 = some (c, k) ∧ ∀ v, 1 ≤ v ∧ v ≤ p.most → (putS p (nextS p s).1 c v v).2 = 0 ∧
      ∃ tf', Round C p (addT tot c k) tf' (i + 1) from_ (putS p (nextS p s).1 c v v).1 ∧ (from_ ≤ i → tf' = tf) ∧ (i < from_ → tf' = addT tot c k ∧ tf = tot) := by
  have hne : s.ring ≠ [] := by
    obtain ⟨c, hc, _⟩ := (h.mem 0).2 ⟨by omega, by omega⟩
    intro e
    rw [e] at hc
    cases hc
  obtain ⟨c, hc, k, x, L, hL, hn, hf, R1, R2, cr, hr, hiff⟩ := fair_next hp hs h.fair (fun c hc => Nat.le_of_eq (h.two c hc).1.symm) hne
  have h2 := h.two c hc
  rw [hL] at h2
  have hx : k = x := h2.2 (k, x) (by simp)
  subst hx
  have hLl : L.length = 1 := by simpa using h2.1
  have hk := (hs.2.1 c hc).2.2.1 (k, k) (by rw [hL]; simp)
  have hcn := (h.mem c.n).1 ⟨c, hc, rfl⟩
  have hno := (next_ok hp hs).1
  refine ⟨c.n, k, hcn, hk, hn, fun v hv => ?_⟩
  obtain ⟨s1, hs1⟩ : ∃ s1, (nextS p s).1 = s1 := ⟨_, rfl⟩
  rw [hs1] at hf hr hno ⊢
  obtain ⟨ring, t⟩ := s1
  simp only at hr
  subst hr
  have hd := hno.2.2.1
  simp only at hd
  have hfp := fair_put (a := c.n) (cost := v) (x := v) hno hf ⟨⟨c.n, cr, L⟩, by simp, rfl⟩
  have hpo := put_ok (n := c.n) (cost := v) (x := v) hp hno
  have e := put_there (p := p) (c := ⟨c.n, cr, L⟩) (t := t) (x := v) hv hd
  simp only at e
  rw [if_neg (by rw [hLl]; simp; omega)] at e
  rw [e] at hfp hpo ⊢
  refine ⟨rfl, ?_⟩
  have hmem : ∀ a, (∃ d ∈ R1 ++ ⟨c.n, cr, L ++ [(v, v)]⟩ :: R2, d.n = a) ↔ 0 ≤ a ∧ a < (C : Int) := by
    intro a
    rw [← h.mem a]
    constructor
    · rintro ⟨d, hd', rfl⟩
      rw [List.mem_append, List.mem_cons] at hd'
      rcases hd' with hd' | rfl | hd'
      · exact ⟨d, ((hiff d).1 (by simp [hd'])).1, rfl⟩
      · exact ⟨c, hc, rfl⟩
      · exact ⟨d, ((hiff d).1 (by simp [hd'])).1, rfl⟩
    · rintro ⟨d, hd', rfl⟩
      by_cases hdc : d = c
      · exact ⟨⟨c.n, cr, L ++ [(v, v)]⟩, by simp, by rw [hdc]⟩
      · have := (hiff d).2 ⟨hd', hdc⟩
        refine ⟨d, ?_, rfl⟩
        rw [List.mem_append] at this
        rw [List.mem_append, List.mem_cons]
        rcases this with h | h
        · exact .inl h
        · exact .inr (.inr h)
  have htwo : Two ⟨R1 ++ ⟨c.n, cr, L ++ [(v, v)]⟩ :: R2, t⟩ := by
    intro d hd'
    simp only at hd'
    rw [List.mem_append, List.mem_cons] at hd'
    have old : ∀ d, d ∈ R1 ++ R2 → d.L.length = 2 ∧ ∀ x ∈ d.L, x.1 = x.2 := fun d hd => h.two d ((hiff d).1 hd).1
    rcases hd' with hd' | rfl | hd'
    · exact old d (by simp [hd'])
    · refine ⟨by simp [hLl], fun y hy => ?_⟩
      simp at hy
      rcases hy with hy | rfl
      · exact h2.2 y (by simp [hy])
      · rfl
    · exact old d (by simp [hd'])
  have hup : ∀ a, tot a ≤ addT tot c.n k a ∧ addT tot c.n k a ≤ tot a + 40 := by
    intro a
    unfold addT
    simp only at hk
    split <;> omega
  by_cases hfi : i < from_
  · have ht := h.till (by omega)
    refine ⟨addT tot c.n k, ⟨hfp, htwo, hmem, fun _ => rfl, ?_, fun a => by simp; omega⟩, fun h => by omega, fun _ => ⟨rfl, ht⟩⟩
    intro a b ha hb
    obtain ⟨ca, h1, rfl⟩ := (hmem a).2 ha
    obtain ⟨cb, h2, rfl⟩ := (hmem b).2 hb
    exact fair_bound hp hpo hfp h2 h1
  · refine ⟨tf, ⟨hfp, htwo, hmem, fun h => by omega, h.old, fun a => ?_⟩, fun _ => rfl, fun h => by omega⟩
    have h1 := h.low a
    have h3 := hup a
    omega
end Go.BK.DR

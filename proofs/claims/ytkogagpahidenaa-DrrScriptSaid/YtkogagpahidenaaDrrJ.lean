/- DrrServes: shape, calls handed in, and the walk. -/
import Derived.Test.YtkogagpahidenaaDrrI
import Derived.Test.YtkogagpahidenaaDrrP
import Derived.Test.YtkogagpahidenaaKPick
namespace Go.Proofs.Ytkogagpahidenaa
open Go.BK Go.BK.DR Go.RowKit Go.Maps
set_option linter.unusedVariables false
/-- A slice of calls: each reads as four numbers. -/
def IActR (w : World) (A : Option Addr) (n c : Nat) (K C S X : Nat → Int) : Prop :=
  n ≤ c ∧ c ≤ maxLen ∧ ∀ i, i < n → ∃ b o, A = some ⟨b, o, none⟩ ∧ b < w.heap.size ∧ w.cell? ⟨b, o + i * 4, none⟩ = some (.int .i64 (K i)) ∧ w.cell? ⟨b, o + i * 4 + 1, none⟩ = some (.int .i64 (C i)) ∧
    w.cell? ⟨b, o + i * 4 + 2, none⟩ = some (.int .i64 (S i)) ∧ w.cell? ⟨b, o + i * 4 + 3, none⟩ = some (.int .i64 (X i)) ∧ wfI (K i) ∧ wfI (C i) ∧ wfI (S i) ∧ wfI (X i)
theorem IActR.n_le {w : World} {A : Option Addr} {n c : Nat} {K C S X : Nat → Int} (h : IActR w A n c K C S X) : n ≤ 9223372036854775807 := by have h1 := h.1; have h2 := h.2.1; unfold maxLen at h2; omega
theorem IActR.at_ {w w' : World} {A : Option Addr} {n c : Nat} {K C S X : Nat → Int} (h : IActR w A n c K C S X) (hb : Below w.heap.size w w') (h0 : 0 < n) : ∃ b o, A = some ⟨b, o, none⟩ ∧ b < w.heap.size ∧
    ∀ i, i < n → w'.cell? ⟨b, o + i * 4, none⟩ = some (.int .i64 (K i)) ∧ w'.cell? ⟨b, o + i * 4 + 1, none⟩ = some (.int .i64 (C i)) ∧ w'.cell? ⟨b, o + i * 4 + 2, none⟩ = some (.int .i64 (S i)) ∧ w'.cell? ⟨b, o + i * 4 + 3, none⟩ = some (.int .i64 (X i)) := by
  obtain ⟨b, o, hA, hlt, _⟩ := h.2.2 0 h0
  refine ⟨b, o, hA, hlt, fun i hi => ?_⟩
  obtain ⟨b', o', hA', _, c0, c1, c2, c3, _⟩ := h.2.2 i hi
  rw [hA] at hA'
  injection hA' with hA'
  injection hA' with e1 e2
  subst e1; subst e2
  exact ⟨(hb.cell (p := ⟨b, o + i * 4, none⟩) hlt).trans c0, (hb.cell (p := ⟨b, o + i * 4 + 1, none⟩) hlt).trans c1, (hb.cell (p := ⟨b, o + i * 4 + 2, none⟩) hlt).trans c2, (hb.cell (p := ⟨b, o + i * 4 + 3, none⟩) hlt).trans c3⟩
theorem IActR.wf {w : World} {A : Option Addr} {n c : Nat} {K C S X : Nat → Int} (h : IActR w A n c K C S X) {i : Nat} (hi : i < n) : wfI (K i) ∧ wfI (C i) ∧ wfI (S i) ∧ wfI (X i) := by
  obtain ⟨_, _, _, _, _, _, _, _, y⟩ := h.2.2 i hi
  exact y
/-- Numbers of a scheduler that may be. -/
def shapeP (a b c d : Int) : Par := ⟨1 + pick a 8, 1 + pick b 12, 1 + pick c 40, 1 + pick d (1 + pick c 40)⟩
theorem shape_ok (a b c d : Int) : (shapeP a b c d).ok ∧ (shapeP a b c d).clients ≤ 8 ∧ (shapeP a b c d).items ≤ 12 ∧ (shapeP a b c d).quantum ≤ 40 := by
  have h1 := pick_range a 8 (by decide)
  have h2 := pick_range b 12 (by decide)
  have h3 := pick_range c 40 (by decide)
  have h4 := pick_range d (1 + pick c 40) (by omega)
  unfold shapeP Par.ok
  simp only
  omega
set_option maxHeartbeats 1000000 in
theorem shape_any (a b c d : Int) (w : World) (ha : wfI a) (hb : wfI b) (hc : wfI c) (hd : wfI d) : Calls Try.prog 10 #[.int .i64 a, .int .i64 b, .int .i64 c, .int .i64 d] w fun e w' =>
    e = .returned (.tuple #[.int .i64 (shapeP a b c d).clients, .int .i64 (shapeP a b c d).items, .int .i64 (shapeP a b c d).quantum, .int .i64 (shapeP a b c d).most]) ∧ w = w' := by
  have h1 := pick_range a 8 (by decide)
  have h2 := pick_range b 12 (by decide)
  have h3 := pick_range c 40 (by decide)
  have h4 := pick_range d (1 + pick c 40) (by omega)
  have C1 := hid (pick_any c 40 w hc (by decide))
  have C2 := hid (pick_any a 8 w ha (by decide))
  have C3 := hid (pick_any b 12 w hb (by decide))
  have C4 := hid (pick_any d (1 + pick c 40) w hd (by omega))
  unfold shapeP
  simp only
  obtain ⟨x1, e1⟩ : ∃ x, pick a 8 = x := ⟨_, rfl⟩
  obtain ⟨x2, e2⟩ : ∃ x, pick b 12 = x := ⟨_, rfl⟩
  obtain ⟨x3, e3⟩ : ∃ x, pick c 40 = x := ⟨_, rfl⟩
  rw [e3] at C4 h4 C1 h3 ⊢
  rw [e1] at C2 h1 ⊢
  rw [e2] at C3 h2 ⊢
  obtain ⟨x4, e4⟩ : ∃ x, pick d (1 + x3) = x := ⟨_, rfl⟩
  rw [e4] at C4 h4 ⊢
  clear e1 e2 e3 e4 ha hb hc hd
  go_enter Try.func10, Try.ntmps10
  go_wp2_with fail
  refine C1.out.mono ?_
  rintro e _ ⟨rfl, rfl⟩
  go_wp2_with fail
  refine C2.out.mono ?_
  rintro e _ ⟨rfl, rfl⟩
  go_wp2_with fail
  refine C3.out.mono ?_
  rintro e _ ⟨rfl, rfl⟩
  go_wp2_with fail
  refine C4.out.mono ?_
  rintro e _ ⟨rfl, rfl⟩
  go_wp2_with fail
  refine bodyPost_ret (by simp [results, Try.results10, go_sem]; rfl) rfl ?_
  exact ⟨rfl, rfl⟩
section
variable {U : Nat → Prop} {w : World} {g : Nat} {p : Par} {s : St}
theorem Qs.less {w1 w2 : World} (h : Qs (More U w1) w2 g p s) (hU : ∀ k, w1.heap.size ≤ k → U k) : Qs U w2 g p s := h.mono fun k _ e => by
  rcases e with e | e
  · exact e
  · exact hU k e
theorem qu_put (h : Qs U w g p s) (hU : ∀ k, w.heap.size ≤ k → U k) (a cost x : Int) (ha : wfI a) : Calls Try.prog 12 #[.pointer (some ⟨g, 0, none⟩), .int .i64 a, .int .i64 cost, .int .i64 x] w fun e w' => e = .returned (.int .i64 (putS p s a cost x).2) ∧ Qs U w' g p (putS p s a cost x).1 ∧ Shy U w w' :=
  (q_put h a cost x ha).mono fun e w' ⟨he, h1, h2⟩ => ⟨he, h1.less hU, h2⟩
theorem qu_next (h : Qs U w g p s) (hU : ∀ k, w.heap.size ≤ k → U k) : Calls Try.prog 13 #[.pointer (some ⟨g, 0, none⟩)] w fun e w' => e = .returned (tellV (nextS p s).2) ∧ Qs U w' g p (nextS p s).1 ∧ Shy U w w' :=
  (q_next h).mono fun e w' ⟨he, h1, h2⟩ => ⟨he, h1.less hU, h2⟩
theorem of_le {a : Int} (h : s.ok p) (hp : p.ok) : (ofS s a : Int) ≤ p.items := by
  unfold Par.ok at hp
  rcases split_at s a with hno | ⟨R1, c, R2, hR, rfl⟩
  · unfold ofS
    rw [find_none hno]
    simp
    omega
  · have hd := h.2.2.1
    have hc := h.2.1 c (by rw [hR]; simp)
    obtain ⟨r, t⟩ := s
    simp only at hR hd
    subst hR
    unfold ofS
    rw [find_some t hd]
    exact hc.2.1
/-- Who has items is queued. -/
theorem of_pos {a : Int} (h : 0 < ofS s a) : ∃ d ∈ s.ring, d.n = a := by
  rcases split_at s a with hno | ⟨R1, c, R2, hR, rfl⟩
  · unfold ofS at h
    rw [find_none hno] at h
    simp at h
  · exact ⟨c, by rw [hR]; simp, rfl⟩
end
end Go.Proofs.Ytkogagpahidenaa

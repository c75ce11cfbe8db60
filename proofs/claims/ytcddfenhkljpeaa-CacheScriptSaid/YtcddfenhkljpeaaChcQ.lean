import Derived.Test.YtcddfenhkljpeaaChcO
/- Layer 23: the plain law of CacheKeeps, and what is general of entries. -/
namespace Go.Proofs.Ytcddfenhkljpeaa
open Go.BK Go.BK.CH Go.BK.NM Go.RowKit Go.Maps
set_option linter.unusedVariables false
set_option linter.unusedSimpArgs false
theorem tmax_le (a b : Int) (h : a ≤ b) : tmax a b = b := by
  unfold tmax
  split <;> omega
theorem outE_none {L : List Ent} {n : List UInt8} {k : Int} (h : ∀ e ∈ L, ¬ e.is n k) : outE L n k = L := by
  unfold outE
  rw [List.filter_eq_self]
  intro e he
  simpa using h e he
theorem findE_none {L : List Ent} {n : List UInt8} {k : Int} (h : ∀ e ∈ L, ¬ e.is n k) : findE L n k = none := by
  unfold findE
  rw [List.find?_eq_none]
  intro e he
  simpa using h e he
theorem liveE_none {L : List Ent} {t : Int} {n : List UInt8} {k : Int} (h : ∀ e ∈ L, ¬ e.is n k) : liveE L t n k = none := by
  unfold liveE
  rw [findE_none h]
theorem diff_eq {L : List Ent} (hd : DiffE L) {e f : Ent} (he : e ∈ L) (hf : f ∈ L) (h : e.is f.n f.k) : e = f := by
  unfold DiffE at hd
  induction L with
  | nil => cases he
  | cons a l ih =>
    rw [List.pairwise_cons] at hd
    rcases List.mem_cons.1 he with he1 | he1
    · rcases List.mem_cons.1 hf with hf1 | hf1
      · rw [he1, hf1]
      · exact absurd h (by rw [he1]; exact hd.1 f hf1)
    · rcases List.mem_cons.1 hf with hf1 | hf1
      · have h1 : f.is e.n e.k := ⟨h.1.symm, h.2.symm⟩
        exact absurd h1 (by rw [hf1]; exact hd.1 e he1)
      · exact ih hd.2 he1 hf1
theorem findE_mem {L : List Ent} (hd : DiffE L) {e : Ent} (he : e ∈ L) : findE L e.n e.k = some e := by
  cases h : findE L e.n e.k with
  | none =>
    unfold findE at h
    rw [List.find?_eq_none] at h
    have := h e he
    simp [Ent.is] at this
  | some f => rw [diff_eq hd (find_mem h).1 he (find_mem h).2]
theorem liveE_mem {L : List Ent} (hd : DiffE L) {e : Ent} (he : e ∈ L) {t : Int} (ht : t < e.x.till) : liveE L t e.n e.k = some e := by
  unfold liveE
  rw [findE_mem hd he]
  simp only
  rw [if_neg (by omega)]
theorem liveE_over {L : List Ent} (hd : DiffE L) {e : Ent} (he : e ∈ L) {t : Int} (ht : e.x.till ≤ t) : liveE L t e.n e.k = none := by
  unfold liveE
  rw [findE_mem hd he]
  simp only
  rw [if_pos ht]
theorem backE_mem {L : List Ent} (hd : DiffE L) {e : Ent} (he : e ∈ L) (f : Ent) : f ∈ backE L e ↔ f ∈ L := by
  unfold backE outE
  simp only [List.mem_append, List.mem_filter, List.mem_singleton]
  constructor
  · rintro (h | rfl)
    · exact h.1
    · exact he
  · intro hf
    by_cases h : f.is e.n e.k
    · exact .inr (diff_eq hd hf he h)
    · exact .inl ⟨hf, by simpa using h⟩
/-! ### CacheKeeps -/
def nmB (i : Nat) : List UInt8 := [1, UInt8.ofNat (98 + i), 0]
theorem nmB_ok : ∀ i, i < 20 → checkS (nmB i) = 0 ∧ lower (nmB i) = nmB i := by decide +kernel
theorem nmB_inj : ∀ i, i < 20 → ∀ j, j < 20 → nmB i = nmB j → i = j := by decide +kernel
def entK (T : Nat → Int) (now : Int) (i : Nat) : Ent := ⟨nmB i, 1, .known (oneSet (nmB i) (T i) [120]) (1 + ((i % 3 : Nat) : Int)) (now + T i)⟩
def stK (T : Nat → Int) (now : Int) (i : Nat) : StC := ⟨if i = 0 then 0 else now, (List.range i).map (entK T now)⟩
theorem stK_no {T : Nat → Int} {now : Int} {i : Nat} (hi : i < 20) (k : Int) : ∀ e ∈ (List.range i).map (entK T now), ¬ e.is (nmB i) k := by
  intro e he h
  obtain ⟨j, hj, rfl⟩ := List.mem_map.1 he
  have hj := List.mem_range.1 hj
  have := nmB_inj j (by omega) i hi h.1
  omega
theorem put_k {T : Nat → Int} {now : Int} {i n : Nat} (h0 : 0 ≤ now) (hi : i < n) (hn : n ≤ 20) :
    putS n (stK T now i) (oneSet (nmB i) (T i) [120]) (1 + ((i % 3 : Nat) : Int)) now = (stK T now (i + 1), true) := by
  obtain ⟨c1, c2⟩ := nmB_ok i (by omega)
  have ht : tmax (stK T now i).now now = now := by
    unfold stK
    simp only
    split
    · exact tmax_le _ _ h0
    · exact tmax_le _ _ (by omega)
  have he : setE (oneSet (nmB i) (T i) [120]) (1 + ((i % 3 : Nat) : Int)) now = entK T now i := by
    unfold setE entK
    rw [show (oneSet (nmB i) (T i) [120]).nm = nmB i from rfl, c2]
    rfl
  have hp : putE n (stK T now i).L (entK T now i) = (stK T now (i + 1)).L := by
    have e1 : outE (stK T now i).L (entK T now i).n (entK T now i).k ++ [entK T now i] = (stK T now (i + 1)).L := by
      rw [show (stK T now i).L = (List.range i).map (entK T now) from rfl, show (entK T now i).n = nmB i from rfl, outE_none (stK_no (by omega) _), show (stK T now (i + 1)).L = (List.range (i + 1)).map (entK T now) from rfl, List.range_succ, List.map_append]
      rfl
    unfold putE
    rw [e1]
    rw [show (stK T now (i + 1)).L = (List.range (i + 1)).map (entK T now) from rfl, List.length_map, List.length_range]
    rw [if_neg (by omega)]
  have hs : (⟨now, (stK T now (i + 1)).L⟩ : StC) = stK T now (i + 1) := rfl
  unfold putS
  rw [ht, he, show (oneSet (nmB i) (T i) [120]).nm = nmB i from rfl, c2, show (oneSet (nmB i) (T i) [120]).ty = 1 from rfl]
  rw [show liveE (stK T now i).L now (nmB i) 1 = none from liveE_none (stK_no (by omega) 1), show outE (stK T now i).L (nmB i) 0 = (stK T now i).L from outE_none (stK_no (by omega) 0), hp, hs]
  split <;> rfl
def KeepS (n : Nat) (T : Nat → Int) (now t : Int) (s : StC) : Prop := s.now ≤ t ∧ (∀ i, i < n → entK T now i ∈ s.L) ∧ ∀ e ∈ s.L, ∃ i, i < n ∧ e = entK T now i
theorem keep_in {n : Nat} {T : Nat → Int} {now t : Int} (h0 : 0 ≤ now) (h : now ≤ t) : KeepS n T now t (stK T now n) := by
  refine ⟨?_, fun i hi => List.mem_map.2 ⟨i, List.mem_range.2 hi, rfl⟩, fun e he => ?_⟩
  · unfold stK
    simp only
    split <;> omega
  · obtain ⟨i, hi, rfl⟩ := List.mem_map.1 he
    exact ⟨i, List.mem_range.1 hi, rfl⟩
theorem keep_back {n : Nat} {T : Nat → Int} {now t : Int} {s : StC} (h : KeepS n T now t s) (hd : DiffE s.L) {e : Ent} (he : e ∈ s.L) : KeepS n T now t ⟨t, backE s.L e⟩ :=
  ⟨Int.le_refl _, fun i hi => (backE_mem hd he _).2 (h.2.1 i hi), fun f hf => h.2.2 f ((backE_mem hd he _).1 hf)⟩
theorem keep_time {n : Nat} {T : Nat → Int} {now t : Int} {s : StC} (h : KeepS n T now t s) : KeepS n T now t ⟨t, s.L⟩ := ⟨Int.le_refl _, h.2.1, h.2.2⟩
theorem keep_yes {n : Nat} {T : Nat → Int} {now t : Int} {s : StC} (h : KeepS n T now t s) (hd : DiffE s.L) {i : Nat} (hi : i < n) (hn : n ≤ 20) (ht : t < now + T i) :
    (getS s (nmB i) 1 1 t).2 = ⟨1, ⟨nmB i, 1, 1, now + T i - t, [[120]]⟩, now + T i - t⟩ ∧ KeepS n T now t (getS s (nmB i) 1 1 t).1 := by
  obtain ⟨c1, c2⟩ := nmB_ok i (by omega)
  have hm := h.2.1 i hi
  have e1 : liveE s.L t (nmB i) 1 = some (entK T now i) := liveE_mem hd hm ht
  have e2 : getS s (nmB i) 1 1 t = (⟨t, backE s.L (entK T now i)⟩, ⟨1, ⟨nmB i, 1, 1, now + T i - t, [[120]]⟩, now + T i - t⟩) := by
    unfold getS
    rw [tmax_le _ _ h.1, c2, e1]
    simp only [entK]
    rw [if_pos (by omega)]
    rfl
  rw [e2]
  exact ⟨rfl, keep_back h hd hm⟩
theorem keep_no {n : Nat} {T : Nat → Int} {now t : Int} {s : StC} (h : KeepS n T now t s) (hd : DiffE s.L) {i : Nat} (hi : i < n) (hn : n ≤ 20) (ht : ¬ t < now + T i) :
    (getS s (nmB i) 1 1 t).2 = ⟨0, ⟨[], 0, 0, 0, []⟩, 0⟩ ∧ KeepS n T now t (getS s (nmB i) 1 1 t).1 := by
  obtain ⟨c1, c2⟩ := nmB_ok i (by omega)
  have hm := h.2.1 i hi
  have e1 : liveE s.L t (nmB i) 1 = none := liveE_over hd hm (by show now + T i ≤ t; omega)
  have e0 : liveE s.L t (nmB i) 0 = none := liveE_none (fun e he hk => by
    obtain ⟨j, _, rfl⟩ := h.2.2 e he
    exact absurd hk.2 (by show ¬ (1 : Int) = 0; decide))
  have e2 : getS s (nmB i) 1 1 t = (⟨t, s.L⟩, ⟨0, ⟨[], 0, 0, 0, []⟩, 0⟩) := by
    unfold getS get2S
    rw [tmax_le _ _ h.1, c2, e1]
    simp only [e0]
    rfl
  rw [e2]
  exact ⟨rfl, keep_time h⟩
end Go.Proofs.Ytcddfenhkljpeaa

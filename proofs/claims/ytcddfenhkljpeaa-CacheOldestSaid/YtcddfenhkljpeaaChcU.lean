/- Layer 23: the plain law of CacheOldest. -/
import Derived.Test.YtcddfenhkljpeaaChcQ
import Derived.Test.YtcddfenhkljpeaaChcT
namespace Go.Proofs.Ytcddfenhkljpeaa
open Go.BK Go.BK.CH Go.BK.NM Go.RowKit Go.Maps
set_option linter.unusedVariables false
set_option linter.unusedSimpArgs false
theorem a_low : lower [1, 97, 0] = [1, 97, 0] := by decide +kernel
/-- That there is nothing of the type 1 + i. -/
def entO (i : Nat) : Ent := noneE [1, 97, 0] (1 + (i : Int)) 1005
def lineL (l : List Nat) : List Ent := l.map entO
def stO (i : Nat) : StC := ⟨if i = 0 then 0 else 5, lineL (List.range i)⟩
/-- Who stands in line. -/
def LineO (n : Nat) (l : List Nat) : Prop := l.Nodup ∧ ∀ i, i ∈ l ↔ i < n
def moveL (l : List Nat) (k : Nat) : List Nat := l.filter (fun i => !decide (i = k)) ++ [k]
theorem lineO_range (n : Nat) : LineO n (List.range n) := ⟨List.nodup_range, fun i => List.mem_range⟩
theorem lineO_len {n : Nat} {l : List Nat} (h : LineO n l) : l.length = n := by
  have hp : l.Perm (List.range n) := (List.perm_ext_iff_of_nodup h.1 List.nodup_range).2 fun i => by rw [h.2 i, List.mem_range]
  rw [hp.length_eq, List.length_range]
theorem lineO_move {n k : Nat} {l : List Nat} (h : LineO n l) (hk : k < n) : LineO n (moveL l k) := by
  refine ⟨?_, fun i => ?_⟩
  · unfold moveL
    rw [List.nodup_append]
    refine ⟨h.1.filter _, by simp, fun a ha b hb => ?_⟩
    rw [List.mem_singleton] at hb
    subst hb
    simpa using (List.mem_filter.1 ha).2
  · unfold moveL
    rw [List.mem_append, List.mem_filter, List.mem_singleton, h.2 i]
    simp only [Bool.not_eq_true', decide_eq_false_iff_not]
    constructor
    · rintro (h1 | rfl)
      · exact h1.1
      · exact hk
    · intro hi
      by_cases e : i = k
      · exact .inr e
      · exact .inl ⟨hi, e⟩
theorem entO_is (i k : Nat) (n : List UInt8) : (entO i).is [1, 97, 0] (1 + (k : Int)) ↔ i = k := by
  unfold entO noneE Ent.is
  simp only
  constructor
  · rintro ⟨_, h⟩
    omega
  · rintro rfl
    exact ⟨trivial, rfl⟩
theorem lineL_out (l : List Nat) (k : Nat) : outE (lineL l) [1, 97, 0] (1 + (k : Int)) = lineL (l.filter (fun i => !decide (i = k))) := by
  unfold outE lineL
  rw [List.filter_map]
  congr 1
  apply List.filter_congr
  intro i _
  simp only [Function.comp]
  congr 1
  exact decide_eq_decide.2 (entO_is i k [])
theorem lineL_find {l : List Nat} {k : Nat} (h : k ∈ l) : findE (lineL l) [1, 97, 0] (1 + (k : Int)) = some (entO k) := by
  cases hf : findE (lineL l) [1, 97, 0] (1 + (k : Int)) with
  | none =>
    unfold findE at hf
    rw [List.find?_eq_none] at hf
    have h1 := hf (entO k) (List.mem_map_of_mem h)
    simp only [decide_eq_true_eq] at h1
    exact absurd ((entO_is k k []).2 rfl) h1
  | some e =>
    obtain ⟨h1, h2⟩ := find_mem hf
    obtain ⟨i, _, rfl⟩ := List.mem_map.1 h1
    rw [(entO_is i k []).1 h2]
theorem put_o {n i : Nat} (hi : i < n) (hn : n ≤ 20) : putNoneS n (stO i) [1, 97, 0] (1 + (i : Int)) 1000 5 = stO (i + 1) := by
  have ht : tmax (stO i).now 5 = 5 := by
    unfold stO
    simp only
    split <;> exact tmax_le _ _ (by decide)
  unfold putNoneS
  rw [ht, a_low, if_neg (by omega), show (5 : Int) + 1000 = 1005 from rfl, show noneE [1, 97, 0] (1 + (i : Int)) 1005 = entO i from rfl]
  have e1 : outE (stO i).L (entO i).n (entO i).k ++ [entO i] = lineL (List.range (i + 1)) := by
    rw [show (stO i).L = lineL (List.range i) from rfl, show (entO i).n = [1, 97, 0] from rfl, show (entO i).k = 1 + (i : Int) from rfl, lineL_out, List.range_succ]
    rw [List.filter_eq_self.2 (fun j hj => by have := List.mem_range.1 hj; simp; omega)]
    unfold lineL
    rw [List.map_append]
    rfl
  unfold putE
  rw [e1, show (lineL (List.range (i + 1))).length = i + 1 from by unfold lineL; rw [List.length_map, List.length_range], if_neg (by omega)]
  rfl
def OldS (l : List Nat) (s : StC) : Prop := s.now = 5 ∧ s.L = lineL l
theorem old_in {n : Nat} (h : 2 ≤ n) : OldS (List.range n) (stO n) := ⟨by unfold stO; simp only; rw [if_neg (by omega)], rfl⟩
theorem get_o {l : List Nat} {s : StC} (h : OldS l s) {k : Nat} (hk : k ∈ l) :
    (getS s [1, 97, 0] (1 + (k : Int)) 3 5).2 = ⟨2, ⟨[], 0, 0, 0, []⟩, 1000⟩ ∧ OldS (moveL l k) (getS s [1, 97, 0] (1 + (k : Int)) 3 5).1 := by
  obtain ⟨h1, h2⟩ := h
  have e1 : liveE s.L 5 [1, 97, 0] (1 + (k : Int)) = some (entO k) := by
    unfold liveE
    rw [h2, lineL_find hk]
    rfl
  have e2 : getS s [1, 97, 0] (1 + (k : Int)) 3 5 = (⟨5, backE s.L (entO k)⟩, ⟨2, ⟨[], 0, 0, 0, []⟩, 1000⟩) := by
    unfold getS
    rw [h1, show tmax 5 5 = 5 from rfl, a_low, e1]
    simp only [entO, noneE]
    rw [if_neg (by omega)]
    rfl
  rw [e2]
  refine ⟨rfl, rfl, ?_⟩
  show backE s.L (entO k) = lineL (moveL l k)
  unfold backE
  rw [h2, show (entO k).n = [1, 97, 0] from rfl, show (entO k).k = 1 + (k : Int) from rfl, lineL_out]
  unfold lineL moveL
  rw [List.map_append]
  rfl
/-- One more. -/
theorem put_last {n : Nat} {l : List Nat} {s : StC} (h : OldS l s) (hl : LineO n l) (hn : n ≤ 20) (h2 : 2 ≤ n) :
    (putNoneS n s [1, 97, 0] 1000 1000 5).L.length = n ∧ hasS (putNoneS n s [1, 97, 0] 1000 1000 5) [1, 97, 0] 1000 = true ∧
    ∀ i, i < n → hasS (putNoneS n s [1, 97, 0] 1000 1000 5) [1, 97, 0] (1 + (i : Int)) = decide (i ≠ l.getD 0 0) := by
  obtain ⟨h1, h3⟩ := h
  have hlen := lineO_len hl
  obtain ⟨x, t, hx⟩ : ∃ x t, l = x :: t := by
    cases l with
    | nil => simp at hlen; omega
    | cons x t => exact ⟨x, t, rfl⟩
  subst hx
  have e1 : outE s.L [1, 97, 0] 1000 = s.L := outE_none (fun e he hk => by
    rw [h3] at he
    obtain ⟨i, hi, rfl⟩ := List.mem_map.1 he
    have h4 := (hl.2 i).1 hi
    have h5 : 1 + (i : Int) = 1000 := hk.2
    omega)
  have e2 : putNoneS n s [1, 97, 0] 1000 1000 5 = ⟨5, lineL t ++ [noneE [1, 97, 0] 1000 1005]⟩ := by
    unfold putNoneS
    rw [h1, show tmax 5 5 = 5 from rfl, a_low, if_neg (by decide), show (5 : Int) + 1000 = 1005 from rfl]
    unfold putE
    rw [show (noneE [1, 97, 0] 1000 1005).n = [1, 97, 0] from rfl, show (noneE [1, 97, 0] 1000 1005).k = 1000 from rfl, e1, h3]
    have h6 : (lineL (x :: t) ++ [noneE [1, 97, 0] 1000 1005]).length = n + 1 := by
      rw [List.length_append, List.length_singleton]
      unfold lineL
      rw [List.length_map, hlen]
    rw [h6, if_pos (by omega)]
    rfl
  rw [e2]
  have hm : ∀ k : Int, hasS ⟨5, lineL t ++ [noneE [1, 97, 0] 1000 1005]⟩ [1, 97, 0] k = true ↔ (∃ i ∈ t, 1 + (i : Int) = k) ∨ k = 1000 := by
    intro k
    unfold hasS findE
    rw [a_low]
    simp only [List.find?_isSome, decide_eq_true_eq, List.mem_append, List.mem_singleton]
    constructor
    · rintro ⟨e, he | rfl, hk⟩
      · obtain ⟨i, hi, rfl⟩ := List.mem_map.1 he
        exact .inl ⟨i, hi, hk.2⟩
      · exact .inr hk.2.symm
    · rintro (⟨i, hi, rfl⟩ | rfl)
      · exact ⟨entO i, .inl (List.mem_map_of_mem hi), rfl, rfl⟩
      · exact ⟨_, .inr rfl, rfl, rfl⟩
  refine ⟨?_, (hm 1000).2 (.inr rfl), fun i hi => ?_⟩
  · show (lineL t ++ [noneE [1, 97, 0] 1000 1005]).length = n
    rw [List.length_append, List.length_singleton]
    unfold lineL
    rw [List.length_map]
    simpa using hlen
  · have hit := hl.2 i
    rw [List.mem_cons] at hit
    rw [Bool.eq_iff_iff, hm, decide_eq_true_eq, show (x :: t).getD 0 0 = x from rfl]
    constructor
    · rintro (⟨j, hj, e⟩ | e)
      · obtain rfl : j = i := by omega
        rintro rfl
        exact (List.nodup_cons.1 hl.1).1 hj
      · omega
    · intro hne
      rcases hit.2 hi with h | h
      · exact absurd h hne
      · exact .inl ⟨i, h, rfl⟩
end Go.Proofs.Ytcddfenhkljpeaa

/- Plain law of buckets: what is taken within any span. -/
import Derived.Test.YthkhjhjlmneaoaaBukT
namespace Go.BK
def ps (l : List Nat) (k : Nat) : Nat := (l.take k).sum
theorem ps_zero (l : List Nat) : ps l 0 = 0 := by simp [ps]
theorem ps_succ {l : List Nat} {k : Nat} (h : k < l.length) : ps l (k + 1) = ps l k + l.getD k 0 := by
  unfold ps
  rw [List.take_add_one, List.getElem?_eq_getElem h, Option.toList, List.sum_append, List.getD_eq_getElem?_getD, List.getElem?_eq_getElem h]
  simp
theorem ps_app {l : List Nat} {n k : Nat} (h : k ≤ l.length) : ps (l ++ [n]) k = ps l k := by
  unfold ps
  rw [List.take_append_of_le_length h]
theorem ps_app_all (l : List Nat) (n : Nat) : ps (l ++ [n]) (l.length + 1) = ps l l.length + n := by
  rw [ps_succ (by simp), ps_app (Nat.le_refl _)]
  simp
theorem getD_app {l : List Nat} {n k : Nat} (h : k < l.length) : (l ++ [n]).getD k 0 = l.getD k 0 := by
  simp [List.getD_eq_getElem?_getD, List.getElem?_append_left h]
theorem getD_app_end (l : List Nat) (n : Nat) : (l ++ [n]).getD l.length 0 = n := by simp

structure Inv (r b : Nat) (ats tks : List Nat) (t a top : Nat) : Prop where
  len : ats.length = tks.length
  each : ∀ k, k < tks.length → tks.getD k 0 ≤ b
  past : ∀ i k, i ≤ k → k < tks.length → ats.getD i 0 ≤ ats.getD k 0 ∧ ps tks (k + 1) ≤ ps tks i + b + r * (ats.getD k 0 - ats.getD i 0)
  now : ∀ i, i < tks.length → ats.getD i 0 ≤ a ∧ ps tks tks.length + t ≤ ps tks i + b + r * (a - ats.getD i 0)
  top : ∀ i, i < tks.length → ats.getD i 0 ≤ top
  le : t ≤ b
variable {r b t a top : Nat} {ats tks : List Nat}
theorem inv_nil (h : t ≤ b) : Inv r b [] [] t a top := ⟨rfl, by simp, by simp, by simp, by simp, h⟩
theorem inv_top {top' : Nat} (h : Inv r b ats tks t a top) (hl : top ≤ top') : Inv r b ats tks t a top' := ⟨h.len, h.each, h.past, h.now, fun i hi => Nat.le_trans (h.top i hi) hl, h.le⟩
theorem inv_fill {a' : Nat} (h : Inv r b ats tks t a top) (hl : a ≤ a') : Inv r b ats tks (min (t + r * (a' - a)) b) a' top := by
  refine ⟨h.len, h.each, h.past, fun i hi => ?_, h.top, Nat.min_le_right _ _⟩
  obtain ⟨h1, h2⟩ := h.now i hi
  refine ⟨by omega, ?_⟩
  have e : r * (a' - ats.getD i 0) = r * (a' - a) + r * (a - ats.getD i 0) := by rw [← Nat.mul_add]; congr 1; omega
  rw [e]
  generalize r * (a' - a) = x at *
  generalize r * (a - ats.getD i 0) = y at *
  omega
theorem inv_take {n : Nat} (h : Inv r b ats tks t a top) (hn : n ≤ t) (ha : a ≤ top) : Inv r b (ats ++ [a]) (tks ++ [n]) (t - n) a top := by
  have hle := h.le
  have hln := h.len
  have hea := ps_app_all tks n
  refine ⟨by simp [hln], fun k hk => ?_, fun i k hik hk => ?_, fun i hi => ?_, fun i hi => ?_, by omega⟩
  · rcases Nat.lt_or_ge k tks.length with h1 | h1
    · rw [getD_app h1]; exact h.each k h1
    · have : k = tks.length := by simp at hk; omega
      subst this
      rw [getD_app_end]; omega
  · rcases Nat.lt_or_ge k tks.length with h1 | h1
    · have := h.past i k hik h1
      rw [getD_app (by omega), getD_app (by omega), ps_app (by omega), ps_app (by omega)]
      exact this
    · have : k = tks.length := by simp at hk; omega
      subst this
      have e2 : (ats ++ [a]).getD tks.length 0 = a := by rw [← hln]; exact getD_app_end _ _
      rw [e2, hea]
      rcases Nat.lt_or_ge i tks.length with h2 | h2
      · have := h.now i h2
        rw [getD_app (by omega), ps_app (by omega)]
        exact ⟨this.1, by omega⟩
      · have : i = tks.length := by omega
        subst this
        rw [e2, ps_app (Nat.le_refl _)]
        exact ⟨Nat.le_refl _, by omega⟩
  · have e3 : (tks ++ [n]).length = tks.length + 1 := by simp
    rw [e3, hea]
    rcases Nat.lt_or_ge i tks.length with h2 | h2
    · have := h.now i h2
      rw [getD_app (by omega), ps_app (by omega)]
      exact ⟨this.1, by omega⟩
    · have : i = tks.length := by simp at hi; omega
      subst this
      have e2 : (ats ++ [a]).getD tks.length 0 = a := by rw [← hln]; exact getD_app_end _ _
      rw [e2, ps_app (Nat.le_refl _)]
      exact ⟨Nat.le_refl _, by omega⟩
  · rcases Nat.lt_or_ge i tks.length with h2 | h2
    · rw [getD_app (by omega)]; exact h.top i h2
    · have : i = tks.length := by simp at hi; omega
      subst this
      rw [← hln, getD_app_end]; exact ha
end Go.BK

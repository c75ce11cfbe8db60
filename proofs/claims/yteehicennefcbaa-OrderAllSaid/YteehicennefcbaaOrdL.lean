/- Plain law of windows: numbers that are done in any order. -/
import Derived.Test.YteehicennefcbaaOrdE
namespace Go.Proofs.Yteehicennefcbaa
open Go.BK Go.RowKit
set_option linter.unusedVariables false

def stL (left : List Nat) (gone m : Nat) : List (Option Bs) := (List.range' (gone + 1) (m - gone)).map fun n => if n ∈ left then none else some [UInt8.ofNat n]
def goneS (left : List Nat) (m : Nat) : Nat := match left with | [] => m | h :: _ => h - 1
def Good (left : List Nat) (gone m : Nat) : Prop := left.Pairwise (· < ·) ∧ (∀ n ∈ left, gone + 1 ≤ n ∧ n ≤ m) ∧ gone = goneS left m

theorem stL_length (left : List Nat) (gone m : Nat) : (stL left gone m).length = m - gone := by simp [stL]
theorem count_in : ∀ (l a : Nat) (left : List Nat), left.Pairwise (· < ·) → (∀ n ∈ left, a ≤ n ∧ n < a + l) → (List.range' a l).countP (fun x => decide (x ∈ left)) = left.length := by
  intro l
  induction l with
  | zero =>
    intro a left hp hb
    cases left with
    | nil => rfl
    | cons h t => have := hb h List.mem_cons_self; omega
  | succ l ih =>
    intro a left hp hb
    rw [List.range'_succ, List.countP_cons]
    cases left with
    | nil => simp
    | cons h t =>
      have h1 := hb h List.mem_cons_self
      rw [List.pairwise_cons] at hp
      by_cases hha : h = a
      · subst hha
        have e : (List.range' (h + 1) l).countP (fun x => decide (x ∈ h :: t)) = (List.range' (h + 1) l).countP (fun x => decide (x ∈ t)) := by
          apply List.countP_congr
          intro x hx
          have := List.mem_range'_1.1 hx
          simp
          omega
        rw [e, ih (h + 1) t hp.2 (fun n hn => ⟨hp.1 n hn, by have := (hb n (List.mem_cons_of_mem _ hn)).2; omega⟩)]
        simp
      · have hna : a ∉ h :: t := by
          intro hm
          rcases List.mem_cons.1 hm with e | hm
          · exact hha e.symm
          · have := hp.1 a hm; omega
        rw [ih (a + 1) (h :: t) (List.pairwise_cons.2 hp) (fun n hn => ⟨by
          rcases List.mem_cons.1 hn with e | hm
          · omega
          · have := hp.1 n hm; omega, by have := (hb n hn).2; omega⟩)]
        simp only [hna, decide_false]
        rfl
theorem stL_count (left : List Nat) (gone m : Nat) (h : Good left gone m) (hgm : gone ≤ m) : (stL left gone m).countP Option.isSome + left.length = m - gone := by
  have h1 := count_in (m - gone) (gone + 1) left h.1 (fun n hn => ⟨(h.2.1 n hn).1, by have := (h.2.1 n hn).2; omega⟩)
  have h2 := List.length_eq_countP_add_countP (fun x => decide (x ∈ left)) (l := List.range' (gone + 1) (m - gone))
  rw [List.length_range', h1] at h2
  unfold stL
  rw [List.countP_map]
  have e : (List.range' (gone + 1) (m - gone)).countP (Option.isSome ∘ fun n => if n ∈ left then none else some [UInt8.ofNat n]) = (List.range' (gone + 1) (m - gone)).countP (fun x => decide ¬ decide (x ∈ left) = true) := by
    apply List.countP_congr
    intro x hx
    by_cases hxl : x ∈ left <;> simp [hxl]
  rw [e]
  omega
theorem good_le {left : List Nat} {gone m : Nat} (h : Good left gone m) : gone ≤ m := by
  cases left with
  | nil => have := h.2.2; simp [goneS] at this; omega
  | cons a t => have := h.2.1 a List.mem_cons_self; have := h.2.2; simp [goneS] at this; omega

theorem all_step {a b : List Nat} {n gone m : Nat} (h : Good (a ++ n :: b) gone m) (x : Int) (hx : x = n) :
    doneErr (gone + 1) (stL (a ++ n :: b) gone m) x = 0 ∧ Good (a ++ b) (goneS (a ++ b) m) m ∧ gone ≤ goneS (a ++ b) m ∧
    doneOut (gone + 1) (stL (a ++ n :: b) gone m) x [UInt8.ofNat n] = (List.range' (gone + 1) (goneS (a ++ b) m - gone)).map (fun n => [UInt8.ofNat n]) ∧
    doneL (gone + 1) (stL (a ++ n :: b) gone m) x [UInt8.ofNat n] = stL (a ++ b) (goneS (a ++ b) m) m := by
  subst hx
  obtain ⟨hp, hr, hg⟩ := h
  have hn := hr n (by simp)
  have hp' := List.pairwise_append.1 hp
  have hpb := List.pairwise_cons.1 hp'.2.1
  have hna : n ∉ a := fun hm => by have := hp'.2.2 n hm n List.mem_cons_self; omega
  have hnb : n ∉ b := fun hm => by have := hpb.1 n hm; omega
  have hP : (a ++ b).Pairwise (· < ·) := List.pairwise_append.2 ⟨hp'.1, hpb.2, fun x hx y hy => hp'.2.2 x hx y (List.mem_cons_of_mem _ hy)⟩
  have hR : ∀ x ∈ a ++ b, gone + 1 ≤ x ∧ x ≤ m := fun x hx => hr x (by
    rcases List.mem_append.1 hx with h | h
    · exact List.mem_append_left _ h
    · exact List.mem_append_right _ (List.mem_cons_of_mem _ h))
  have hG : gone ≤ goneS (a ++ b) m ∧ goneS (a ++ b) m ≤ m ∧ (∀ x ∈ a ++ b, goneS (a ++ b) m + 1 ≤ x) ∧ (goneS (a ++ b) m < m → goneS (a ++ b) m + 1 ∈ a ++ b) := by
    generalize a ++ b = c at hP hR ⊢
    cases c with
    | nil => exact ⟨by simp [goneS]; omega, by simp [goneS], by simp, by simp [goneS]⟩
    | cons h t =>
      have := hR h List.mem_cons_self
      rw [List.pairwise_cons] at hP
      refine ⟨by simp [goneS]; omega, by simp [goneS]; omega, ?_, ?_⟩
      · intro x hx
        rcases List.mem_cons.1 hx with e | hx
        · simp [goneS]; omega
        · have := hP.1 x hx; simp [goneS]; omega
      · intro _
        simp [goneS]; omega
  have hset : (stL (a ++ n :: b) gone m).set ((n : Int) - ((gone + 1 : Nat) : Int)).toNat (some [UInt8.ofNat n]) = (List.range' (gone + 1) (m - gone)).map fun x => if x ∈ a ++ b then none else some [UInt8.ofNat x] := by
    apply List.ext_getElem
    · simp [stL]
    · intro i h1 h2
      rw [List.getElem_set]
      simp only [List.length_map, List.length_range'] at h2
      simp only [stL, List.getElem_map, List.getElem_range', Nat.one_mul]
      by_cases hi : ((n : Int) - ((gone + 1 : Nat) : Int)).toNat = i
      · rw [if_pos hi, show gone + 1 + i = n from by omega]
        rw [if_neg (by simp [hna, hnb])]
      · rw [if_neg hi]
        have hne : gone + 1 + i ≠ n := by omega
        by_cases hm : gone + 1 + i ∈ a ++ b
        · rw [if_pos hm, if_pos (by simp at hm ⊢; rcases hm with h | h <;> simp [h])]
        · rw [if_neg hm, if_neg (by simp at hm ⊢; exact ⟨hm.1, hne, hm.2⟩)]
  have h0 : doneErr (gone + 1) (stL (a ++ n :: b) gone m) n = 0 := by
    unfold doneErr
    rw [stL_length, if_neg (by omega)]
    have : (stL (a ++ n :: b) gone m)[((n : Int) - ((gone + 1 : Nat) : Int)).toNat]? = some none := by
      rw [List.getElem?_eq_getElem (by rw [stL_length]; omega)]
      simp only [stL, List.getElem_map, List.getElem_range', Nat.one_mul]
      rw [show gone + 1 + ((n : Int) - ((gone + 1 : Nat) : Int)).toNat = n from by omega, if_pos (by simp)]
    rw [this]
    rfl
  have hsplit : List.range' (gone + 1) (m - gone) = List.range' (gone + 1) (goneS (a ++ b) m - gone) ++ List.range' (goneS (a ++ b) m + 1) (m - goneS (a ++ b) m) := by
    have := List.range'_append_1 (s := gone + 1) (m := goneS (a ++ b) m - gone) (n := m - goneS (a ++ b) m)
    rw [show gone + 1 + (goneS (a ++ b) m - gone) = goneS (a ++ b) m + 1 from by omega, show goneS (a ++ b) m - gone + (m - goneS (a ++ b) m) = m - gone from by omega] at this
    exact this.symm
  have hfst : (List.range' (gone + 1) (goneS (a ++ b) m - gone)).map (fun x => if x ∈ a ++ b then none else some [UInt8.ofNat x]) = (List.range' (gone + 1) (goneS (a ++ b) m - gone)).map (fun x => some [UInt8.ofNat x]) := by
    apply List.map_congr_left
    intro x hx
    have := List.mem_range'_1.1 hx
    rw [if_neg (fun hm => by have := hG.2.2.1 x hm; omega)]
  have hsnd : ((List.range' (goneS (a ++ b) m + 1) (m - goneS (a ++ b) m)).map (fun x => if x ∈ a ++ b then none else some [UInt8.ofNat x])).takeWhile Option.isSome = [] ∧
      ((List.range' (goneS (a ++ b) m + 1) (m - goneS (a ++ b) m)).map (fun x => if x ∈ a ++ b then none else some [UInt8.ofNat x])).dropWhile Option.isSome = (List.range' (goneS (a ++ b) m + 1) (m - goneS (a ++ b) m)).map (fun x => if x ∈ a ++ b then none else some [UInt8.ofNat x]) := by
    by_cases hlt : goneS (a ++ b) m < m
    · obtain ⟨q, hq⟩ : ∃ q, m - goneS (a ++ b) m = q + 1 := ⟨m - goneS (a ++ b) m - 1, by omega⟩
      rw [hq, List.range'_succ, List.map_cons, if_pos (hG.2.2.2 hlt)]
      exact ⟨rfl, rfl⟩
    · rw [show m - goneS (a ++ b) m = 0 from by omega]
      exact ⟨rfl, rfl⟩
  have hall : ∀ x ∈ (List.range' (gone + 1) (goneS (a ++ b) m - gone)).map (fun x => some [UInt8.ofNat x]), Option.isSome x = true := by
    intro x hx
    obtain ⟨y, _, rfl⟩ := List.mem_map.1 hx
    rfl
  refine ⟨h0, ⟨hP, fun x hx => ⟨hG.2.2.1 x hx, (hR x hx).2⟩, rfl⟩, hG.1, ?_, ?_⟩
  · unfold doneOut
    rw [if_pos h0, hset, hsplit, List.map_append, hfst, List.takeWhile_append_of_pos hall, hsnd.1, List.append_nil, List.filterMap_map]
    simp
  · unfold doneL
    rw [if_pos h0, hset, hsplit, List.map_append, hfst, List.dropWhile_append_of_pos hall, hsnd.2]
    rfl
theorem good_start (m : Nat) (h : 1 ≤ m) : Good (List.range' 1 m) 0 m ∧ stL (List.range' 1 m) 0 m = List.replicate m none := by
  refine ⟨⟨List.pairwise_lt_range', fun n hn => ?_, ?_⟩, ?_⟩
  · have := List.mem_range'_1.1 hn; omega
  · obtain ⟨q, rfl⟩ : ∃ q, m = q + 1 := ⟨m - 1, by omega⟩
    rw [List.range'_succ]
    rfl
  · unfold stL
    rw [List.eq_replicate_iff]
    refine ⟨by simp, fun x hx => ?_⟩
    obtain ⟨y, hy, rfl⟩ := List.mem_map.1 hx
    have := List.mem_range'_1.1 hy
    rw [if_pos (List.mem_range'_1.2 (by omega))]
end Go.Proofs.Yteehicennefcbaa

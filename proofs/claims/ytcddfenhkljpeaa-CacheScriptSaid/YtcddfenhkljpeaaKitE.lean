import Derived.Test.YtcddfenhkljpeaaKitA
import Derived.StillTail
import Derived.Deep.RegionHeld3
/- A region that draws its order and ends with one operation that waits for all the others: what the others read stands until then, the last may write it. -/
namespace Go.BK
theorem lga {α : Type _} {l : List α} {i : Nat} : l.toArray[i]? = l[i]? := List.getElem?_toArray
theorem lgb {α : Type _} {a : α} {l : List α} {i : Nat} : (a :: l)[i+1]? = l[i]? := List.getElem?_cons_succ
theorem lgc {α : Type _} {a : α} {l : List α} : (a :: l)[0]? = some a := List.getElem?_cons_zero
theorem lsa {α : Type _} {l : List α} {i : Nat} {a : α} : l.toArray.setIfInBounds i a = (l.set i a).toArray := List.setIfInBounds_toArray l i a
theorem lsb {α : Type _} {a b : α} {l : List α} : (a :: l).set 0 b = b :: l := rfl
theorem lsc {α : Type _} {a b : α} {l : List α} {i : Nat} : (a :: l).set (i+1) b = a :: l.set i b := rfl
open Go Go.RowKit
section
variable {P : Program} {ops : Array Oper} {Q : Exit → Act → World → Prop} {md : Region.Mode} {S : World → Prop}
/-- Whatever order is picked for those ahead of number n, S holds behind each of them; then the rest. -/
def wpAnyE (P : Program) (md : Region.Mode) (ops : Array Oper) (Q : Exit → Act → World → Prop) (S : World → Prop) (n : Nat) : Nat → Array Bool → Act → World → Prop
  | 0, listed, a, w => Region.seqB md ops 1 n listed = true ∧ wpAny P md ops Q 1 listed a w
  | f + 1, listed, a, w => Region.ready md ops listed ≠ [] ∧ ∀ i ∈ Region.ready md ops listed, i < n ∧ wpOp P ops Q i (fun a' w' => S w' ∧ wpAnyE P md ops Q S n f (listed.setIfInBounds i true) a' w') a w
theorem any_of_E {n : Nat} : ∀ (f : Nat) (listed : Array Bool) (a : Act) (w : World), wpAnyE P md ops Q S n f listed a w → wpAny P md ops Q (f + 1) listed a w
  | 0, _, _, _, h => h.2
  | f + 1, _, _, _, h => ⟨fun h0 => absurd h0 h.1, fun i hi => wpOp_mono (fun a' w' h' => any_of_E f _ a' w' h'.2) (h.2 i hi).2⟩
def headE (md : Region.Mode) (ops : Array Oper) (n : Nat) : Bool := Region.noSelect ops && decide (n < ops.size) && Region.sinkB md ops n && Region.chainB md ops n
theorem E_first {n i : Nat} {oi : Oper} {v : Value} (hB : headE md ops n = true) (hi : ops[i]? = some oi) (hin : i < n) (hQ : ∀ c a w, Q (.panic c) (a.put oi.dst v) w → Q (.panic c) a w) :
    ∀ (f : Nat) (listed : Array Bool) (a : Act) (w : World), HeadInv md ops n listed →
      (∀ j oj, ops[j]? = some oj → j ≠ i → listed.getD j true = false → (∀ e ∈ oj.after, Region.binds md e = true → e.on ≠ i) → oi.apart ops oj = true) →
      i ∈ Region.ready md ops listed → YieldsIf P ops S oi v a → S w →
      wpAnyE P md ops Q S n f (listed.setIfInBounds i true) (a.put oi.dst v) w → wpAnyE P md ops Q S n (f + 1) listed a w := by
  simp only [headE, Bool.and_eq_true, decide_eq_true_eq] at hB
  obtain ⟨⟨⟨hs0, hn⟩, hs⟩, hc⟩ := hB
  have hsel := Region.noSelect_spec hs0
  intro f
  induction f with
  | zero =>
    intro listed a w inv _ hr hy hS H
    have hun := (mem_ready.1 hr).1
    refine ⟨fun h => (by rw [h] at hr; cases hr), fun j hj => ?_⟩
    have hjn : j < n := by
      rcases Nat.lt_or_ge j n with h | h
      · exact h
      · exact absurd hj (tail_waits hs hc hn inv _ i rfl hin hun j h)
    refine ⟨hjn, ?_⟩
    by_cases hji : j = i
    · subst hji; exact hy.wpOp hi hS ⟨hS, H⟩
    · have := seqB_ready H.1 j (ready_mono hj hji)
      omega
  | succ f ih =>
    intro listed a w inv hfree hr hy hS H
    have hun := (mem_ready.1 hr).1
    refine ⟨fun h => (by rw [h] at hr; cases hr), fun j hj => ?_⟩
    have hjn : j < n := by
      rcases Nat.lt_or_ge j n with h | h
      · exact h
      · exact absurd hj (tail_waits hs hc hn inv _ i rfl hin hun j h)
    refine ⟨hjn, ?_⟩
    by_cases hji : j = i
    · subst hji; exact hy.wpOp hi hS ⟨hS, H⟩
    · have h1 := (H.2 j (ready_mono hj hji)).2
      obtain ⟨hjun, oj, hoj, hall⟩ := mem_ready.1 hj
      have hnot : ∀ e ∈ oj.after, Region.binds md e = true → e.on ≠ i := fun e he hb heq => by
        have h1 := hall e he hb
        rw [heq, getD_both hun] at h1
        cases h1
      have h2 := wpOp_putIf hoj (hfree j oj hoj hji hjun hnot) (fun cs b => hsel i oi cs b hi) (fun cs b => hsel j oj cs b hoj) hQ hy h1
      have hfree' : ∀ k ok, ops[k]? = some ok → k ≠ i → (listed.setIfInBounds j true).getD k true = false →
          (∀ e ∈ ok.after, Region.binds md e = true → e.on ≠ i) → oi.apart ops ok = true := fun k ok hk hki hun hno => by
        refine hfree k ok hk hki ?_ hno
        by_cases hjk : j = k
        · subst hjk; exact hjun
        · rw [getD_set_ne true hjk] at hun; exact hun
      refine wpOp_mono (fun a' w' h3 => ⟨h3.2.1, ih (listed.setIfInBounds j true) a' w' (inv.set hj hjn) hfree' (ready_mono hr (Ne.symm hji)) h3.1 h3.2.1 ?_⟩) h2
      rw [Array.setIfInBounds_comm _ _ hji]
      exact h3.2.2
/-- The walk's goal. -/
def EG (P : Program) (md : Region.Mode) (ops : Array Oper) (Q : Exit → Act → World → Prop) (S : World → Prop) (n f : Nat) (listed : Array Bool) (a : Act) (w : World) : Prop :=
  headE md ops n = true → HeadInv md ops n listed → wpAnyE P md ops Q S n f listed a w
theorem EG_take {n : Nat} (i : Nat) {oi : Oper} {v : Value} {f : Nat} {listed : Array Bool} {a : Act} {w : World} (hi : ops[i]? = some oi) (hf : Region.free md ops listed i = true) (hr : (Region.ready md ops listed).contains i = true) (hin : i < n)
    (hQ : ∀ c a w, Q (.panic c) (a.put oi.dst v) w → Q (.panic c) a w) (hy : YieldsIf P ops S oi v a) (hS : S w) (h : EG P md ops Q S n f (listed.setIfInBounds i true) (a.put oi.dst v) w) : EG P md ops Q S n (f + 1) listed a w := fun hB inv =>
  have hr' : i ∈ Region.ready md ops listed := by simpa using hr
  E_first hB hi hin hQ f listed a w inv (Region.free_spec hi hf) hr' hy hS (h hB (inv.set hr' hin))
theorem EG_one {n : Nat} (i : Nat) {oi : Oper} {f : Nat} {listed : Array Bool} {a : Act} {w : World} (hr : Region.ready md ops listed = [i]) (hi : ops[i]? = some oi) (hin : i < n)
    (h : ∀ K' : Act → World → Prop, (∀ a' w', S w' → EG P md ops Q S n f (listed.setIfInBounds i true) a' w' → K' a' w') → if Region.wanted oi (yielded ops a.tmps) = true then Oper.wp P oi a w K' Q else K' (a.put oi.dst undef) w) : EG P md ops Q S n (f + 1) listed a w := fun hB inv => by
  have hm : i ∈ Region.ready md ops listed := by rw [hr]; simp
  refine ⟨by rw [hr]; simp, fun j hj => ?_⟩
  rw [hr] at hj
  obtain rfl : j = i := by simpa using hj
  exact ⟨hin, wpOp_step hi fun K' hK => h K' fun a' w' hS he => hK a' w' ⟨hS, he hB (inv.set hm hin)⟩⟩
theorem EG_two {n : Nat} (i j : Nat) {oi oj : Oper} {f : Nat} {listed : Array Bool} {a : Act} {w : World} (hr : Region.ready md ops listed = [i, j]) (hi : ops[i]? = some oi) (hj : ops[j]? = some oj) (hin : i < n) (hjn : j < n)
    (h : ∀ K' : Act → World → Prop, (∀ a' w', S w' → EG P md ops Q S n f (listed.setIfInBounds i true) a' w' → K' a' w') → if Region.wanted oi (yielded ops a.tmps) = true then Oper.wp P oi a w K' Q else K' (a.put oi.dst undef) w)
    (k : ∀ K' : Act → World → Prop, (∀ a' w', S w' → EG P md ops Q S n f (listed.setIfInBounds j true) a' w' → K' a' w') → if Region.wanted oj (yielded ops a.tmps) = true then Oper.wp P oj a w K' Q else K' (a.put oj.dst undef) w) : EG P md ops Q S n (f + 1) listed a w := fun hB inv => by
  have hm : i ∈ Region.ready md ops listed := by rw [hr]; simp
  have hm2 : j ∈ Region.ready md ops listed := by rw [hr]; simp
  refine ⟨by rw [hr]; simp, fun q hq => ?_⟩
  rw [hr] at hq
  rcases (show q = i ∨ q = j by simpa using hq) with rfl | rfl
  · exact ⟨hin, wpOp_step hi fun K' hK => h K' fun a' w' hS he => hK a' w' ⟨hS, he hB (inv.set hm hin)⟩⟩
  · exact ⟨hjn, wpOp_step hj fun K' hK => k K' fun a' w' hS he => hK a' w' ⟨hS, he hB (inv.set hm2 hjn)⟩⟩
theorem EG_end {n : Nat} {oi : Oper} {listed : Array Bool} {a : Act} {w : World} (hs : Region.seqB md ops 1 n listed = true) (hi : ops[n]? = some oi)
    (h : ∀ K' : Act → World → Prop, (∀ a' w', Q .normal a' w' → K' a' w') → if Region.wanted oi (yielded ops a.tmps) = true then Oper.wp P oi a w K' Q else K' (a.put oi.dst undef) w) : EG P md ops Q S n 0 listed a w := fun _ _ => by
  refine ⟨hs, ?_⟩
  simp only [Region.seqB, Bool.and_eq_true, decide_eq_true_eq] at hs
  refine ⟨fun h0 => (by rw [hs.1] at h0; cases h0), fun j hj => ?_⟩
  rw [hs.1] at hj
  obtain rfl : j = n := by simpa using hj
  refine wpOp_step hi fun K' hK => h K' fun a' w' hq => hK a' w' ⟨?_, hq⟩
  simpa using hs.2
theorem region_E {id : Nat} {a : Act} {w : World} (n : Nat) (hm : P.follows .mixedOrders = true) (hB : headE .any ops n = true) (hn : n + 1 = ops.size) (h : EG P .any ops Q S n n (Array.replicate ops.size false) a w.drew) : (Code.region id ops true).wp P Q a w := by
  refine wp_region_any hm ?_
  have inv0 : HeadInv .any ops n (Array.replicate ops.size false) :=
    ⟨by simp, fun j oj _ hl => (by rw [getD_replicate_false] at hl; cases hl), fun t _ ht => getD_in (by simpa using ht) (getD_replicate_false _ _)⟩
  have h1 := any_of_E n _ a _ (h hB inv0)
  rw [hn] at h1
  exact h1
end
end Go.BK

/- Layer 5: the packer, plainly and in memory. -/
import Derived.Test.YtfimfmghfjokjaaWirP
import Derived.Test.YtfimfmghfjokjaaKitM
import Derived.Test.YtfimfmghfjokjaaKitU
import Derived.Test.YtfimfmghfjokjaaLabC
import Derived.Maps.Range
namespace Go.Proofs.Ytfimfmghfjokjaa
open Go.BK Go.RowKit Go.Maps Go.BK.NM
set_option linter.unusedVariables false

abbrev Tails := List (Bs × Nat)
def lookT (T : Tails) (x : Bs) : Option Nat := (T.find? (fun p => decide (p.1 = x))).map (·.2)
/-- No tail twice; each below the place 16,384. -/
def OkT (T : Tails) : Prop := T.Pairwise (fun p q => p.1 ≠ q.1) ∧ ∀ p ∈ T, p.2 < 16384 ∧ p.1.length ≤ 255
theorem look_nil (x : Bs) : lookT [] x = none := rfl
theorem look_mem {T : Tails} {x : Bs} {k : Nat} (h : lookT T x = some k) : (x, k) ∈ T := by
  unfold lookT at h
  obtain ⟨p, hp, rfl⟩ := Option.map_eq_some_iff.1 h
  have h1 := List.find?_some hp
  have h2 := List.mem_of_find?_eq_some hp
  simp at h1
  subst h1
  exact h2
theorem look_iff {T : Tails} (h : T.Pairwise (fun p q => p.1 ≠ q.1)) (x : Bs) (k : Nat) : lookT T x = some k ↔ (x, k) ∈ T := by
  refine ⟨look_mem, fun hm => ?_⟩
  induction T with
  | nil => cases hm
  | cons p T ih =>
    rw [List.pairwise_cons] at h
    unfold lookT
    rw [List.find?_cons]
    by_cases hp : p.1 = x
    · rw [decide_eq_true hp]
      rcases List.mem_cons.1 hm with rfl | hm
      · rfl
      · exact absurd hp (h.1 _ hm)
    · rw [decide_eq_false hp]
      rcases List.mem_cons.1 hm with rfl | hm
      · exact absurd rfl hp
      · exact ih h.2 hm
theorem look_none {T : Tails} {x : Bs} : lookT T x = none ↔ ∀ p ∈ T, p.1 ≠ x := by
  unfold lookT
  rw [Option.map_eq_none_iff, List.find?_eq_none]
  simp
theorem look_snoc {T : Tails} {x y : Bs} {k : Nat} (h : lookT T x = none) : lookT (T ++ [(x, k)]) y = if y = x then some k else lookT T y := by
  unfold lookT at h ⊢
  rw [Option.map_eq_none_iff] at h
  rw [List.find?_append]
  by_cases hy : y = x
  · subst hy
    rw [h, if_pos rfl]
    simp
  · rw [if_neg hy]
    have : List.find? (fun p => decide (p.1 = y)) [(x, k)] = none := by
      rw [List.find?_cons, decide_eq_false (fun e => hy e.symm)]; rfl
    rw [this]; simp

/-- The table of tails as a map has it. -/
def tabT (T : Tails) : Lit → Option Value
  | .string x => (lookT T x).map fun (k : Nat) => Value.int .i64 (k : Int)
  | _ => none
theorem tabT_str (T : Tails) (x : Bs) : tabT T (.string x) = (lookT T x).map fun (k : Nat) => Value.int .i64 (k : Int) := rfl
theorem tabT_put {T : Tails} {x : Bs} {k : Nat} (h : lookT T x = none) (z : Lit) : tabT (T ++ [(x, k)]) z = putF (tabT T) (.string x) (.int .i64 k) z := by
  unfold putF
  cases z with
  | string y =>
    by_cases hy : y = x
    · subst hy
      rw [if_pos rfl]
      rw [tabT_str, look_snoc h, if_pos rfl]; rfl
    · rw [if_neg (fun e => hy (by injection e))]
      rw [tabT_str, tabT_str, look_snoc h, if_neg hy]
  | _ => rw [if_neg (by intro e; cases e)]; rfl
theorem tabT_same {T U : Tails} (h : ∀ x, lookT T x = lookT U x) (z : Lit) : tabT T z = tabT U z := by
  cases z with
  | string y => rw [tabT_str, tabT_str, h]
  | _ => rfl

theorem keyedS : Keyed Try.prog 9 := string_keyed Try.underlying9
theorem key_str (x : Bs) (h : x.length ≤ maxLen) : keyOf Try.prog 9 (.string (str x)) = some (.string x) := by
  rw [keyOf_string Try.underlying9]
  simp [mapKey, Try.underlying9, str_size, h, str_data]
theorem zero_int (w : World) : (zeroValue 3).run Try.prog w = .ok (.int .i64 0) w := by kernel_rfl

/-- The packer at g, its table at mb. -/
def PackW (w : World) (g mb : Nat) (T : Tails) (e : Nat) : Prop :=
  Blk w g 47 #[.map (some mb), .int .i64 e] ∧ MapF Try.prog w 9 mb (tabT T) T.length ∧ OkT T
theorem mapF_shy {U : Nat → Prop} {w w' : World} {k : TypeId} {b s : Nat} {f : Lit → Option Value} (hs : Shy U w w') (h : MapF Try.prog w k b f s) (hb : ¬ U b) : MapF Try.prog w' k b f s := by
  obtain ⟨D, ⟨es, clock, hb', r1⟩, r2⟩ := h
  exact ⟨D, ⟨es, clock, (hs.block b (Array.getElem?_eq_some_iff.1 hb').1 hb).trans hb', r1⟩, r2⟩
theorem PackW.shy {U : Nat → Prop} {w w' : World} {g mb e : Nat} {T : Tails} (h : PackW w g mb T e) (hs : Shy U w w') (h1 : ¬ U g) (h2 : ¬ U mb) : PackW w' g mb T e :=
  ⟨(hs.block _ h.1.lt h1).trans h.1, mapF_shy hs h.2.1 h2, h.2.2⟩
theorem PackW.ext {w w' : World} {g mb e : Nat} {T : Tails} (h : PackW w g mb T e) (hs : Ext w w') : PackW w' g mb T e :=
  h.shy (U := fun _ => False) (Shy.of_ext hs) id id
theorem PackW.ne {w : World} {g mb e : Nat} {T : Tails} (h : PackW w g mb T e) : g ≠ mb := by
  rintro rfl
  obtain ⟨D, ⟨es, clock, hb, _⟩, _⟩ := h.2.1
  have := h.1
  unfold Blk at this
  rw [this] at hb
  cases hb

/-- What stands for labels at a place, when o bytes of the name are told: its bytes, and the tails that are new. -/
def packL (T : Tails) (at_ : Nat) : Nat → List Bs → Bs × Tails
  | _, [] => ([0], [])
  | o, s :: L => match lookT T (wire (s :: L)) with
    | some k => ([UInt8.ofNat (192 + k / 256), UInt8.ofNat (k % 256)], [])
    | none => (UInt8.ofNat s.length :: s ++ (packL T at_ (o + 1 + s.length) L).1, if at_ + o < 16384 then (wire (s :: L), at_ + o) :: (packL T at_ (o + 1 + s.length) L).2 else (packL T at_ (o + 1 + s.length) L).2)
theorem packL_nil (T : Tails) (at_ o : Nat) : packL T at_ o [] = ([0], []) := rfl
theorem packL_hit {T : Tails} {at_ o k : Nat} {s : Bs} {L : List Bs} (h : lookT T (wire (s :: L)) = some k) : packL T at_ o (s :: L) = ([UInt8.ofNat (192 + k / 256), UInt8.ofNat (k % 256)], []) := by
  unfold packL; rw [h]
theorem packL_new {T : Tails} {at_ o : Nat} {s : Bs} {L : List Bs} (h : lookT T (wire (s :: L)) = none) :
    packL T at_ o (s :: L) = (UInt8.ofNat s.length :: s ++ (packL T at_ (o + 1 + s.length) L).1, if at_ + o < 16384 then (wire (s :: L), at_ + o) :: (packL T at_ (o + 1 + s.length) L).2 else (packL T at_ (o + 1 + s.length) L).2) := by
  rw [packL, h]
theorem wire_shrinks (s : Bs) (L : List Bs) : (wire L).length < (wire (s :: L)).length := by rw [wire_cons]; simp; omega
/-- The new tails: none is known, each is a tail, each shorter than the one ahead. -/
theorem packL_fresh {T : Tails} {at_ : Nat} : ∀ (L : List Bs) (o : Nat), (∀ p ∈ (packL T at_ o L).2, lookT T p.1 = none ∧ p.2 < 16384 ∧ p.1.length ≤ (wire L).length) ∧ (packL T at_ o L).2.Pairwise (fun p q => p.1 ≠ q.1) := by
  intro L
  induction L with
  | nil => intro o; rw [packL_nil]; simp
  | cons s L ih =>
    intro o
    cases h : lookT T (wire (s :: L)) with
    | some k => rw [packL_hit h]; simp
    | none =>
      rw [packL_new h]
      obtain ⟨h1, h2⟩ := ih (o + 1 + s.length)
      have hw := wire_shrinks s L
      simp only
      split
      · refine ⟨fun p hp => ?_, List.pairwise_cons.2 ⟨fun p hp e => ?_, h2⟩⟩
        · rcases List.mem_cons.1 hp with rfl | hp
          · exact ⟨h, by assumption, Nat.le_refl _⟩
          · exact ⟨(h1 p hp).1, (h1 p hp).2.1, by have := (h1 p hp).2.2; omega⟩
        · have := (h1 p hp).2.2
          simp only at e
          rw [← e] at this
          omega
      · exact ⟨fun p hp => ⟨(h1 p hp).1, (h1 p hp).2.1, by have := (h1 p hp).2.2; omega⟩, h2⟩
theorem packL_count {T : Tails} {at_ : Nat} : ∀ (L : List Bs) (o : Nat), (packL T at_ o L).2.length ≤ L.length := by
  intro L
  induction L with
  | nil => intro o; rw [packL_nil]; simp
  | cons s L ih =>
    intro o
    cases h : lookT T (wire (s :: L)) with
    | some k => rw [packL_hit h]; simp
    | none =>
      rw [packL_new h]
      have := ih (o + 1 + s.length)
      simp only
      split <;> simp <;> omega
theorem packL_len {T : Tails} {at_ : Nat} : ∀ (L : List Bs) (o : Nat), okL L → 1 ≤ (packL T at_ o L).1.length ∧ (packL T at_ o L).1.length ≤ (wire L).length := by
  intro L
  induction L with
  | nil => intro o _; rw [packL_nil, wire_nil]; simp
  | cons s L ih =>
    intro o hL
    have hs := hL s (by simp)
    cases h : lookT T (wire (s :: L)) with
    | some k => rw [packL_hit h, wire_cons]; simp; omega
    | none =>
      rw [packL_new h, wire_cons]
      have := ih (o + 1 + s.length) (fun t ht => hL t (by simp [ht]))
      simp
      omega
theorem wire_count (L : List Bs) : L.length ≤ (wire L).length := by
  induction L with
  | nil => simp
  | cons s L ih => have := wire_shrinks s L; simp only [List.length_cons]; omega
theorem okT_more {T F : Tails} {at_ o : Nat} {L : List Bs} (h : OkT T) (hF : F = (packL T at_ o L).2) (hl : (wire L).length ≤ 255) : OkT (T ++ F) := by
  subst hF
  obtain ⟨h1, h2⟩ := packL_fresh (T := T) (at_ := at_) L o
  refine ⟨List.pairwise_append.2 ⟨h.1, h2, fun p hp q hq e => ?_⟩, fun p hp => ?_⟩
  · exact look_none.1 (h1 q hq).1 p hp e
  · rcases List.mem_append.1 hp with hp | hp
    · exact h.2 p hp
    · exact ⟨(h1 p hp).2.1, by have := (h1 p hp).2.2; omega⟩
end Go.Proofs.Ytfimfmghfjokjaa

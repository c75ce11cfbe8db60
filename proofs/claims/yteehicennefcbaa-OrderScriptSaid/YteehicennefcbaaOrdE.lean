/- order.Window by what it answers: New, Open, Done, Len, First, Ready over a list of what is open. -/
import Derived.Test.YteehicennefcbaaOrdD
import Derived.Test.YteehicennefcbaaKList
namespace Go.Proofs.Yteehicennefcbaa
open Go.BK Go.RowKit
set_option linter.unusedVariables false

abbrev Bs := List UInt8
/-- Block g is a window whose open numbers are 'first' and on: what is done with is told. U: the blocks that are its. -/
def Win (U : Nat → Prop) (w : World) (g most first : Nat) (L : List (Option Bs)) : Prop := ∃ X, WinR U w g most first X ∧ bytesOf X = L ∧ ∀ k, U k → k < w.heap.size

def doneErr (first : Nat) (L : List (Option Bs)) (n : Int) : Int := if n < first ∨ (first : Int) + L.length ≤ n then 6 else if (L[(n - first).toNat]?).join.isSome then 7 else 0
def doneOut (first : Nat) (L : List (Option Bs)) (n : Int) (b : Bs) : List Bs := if doneErr first L n = 0 then ((L.set (n - first).toNat (some b)).takeWhile Option.isSome).filterMap id else []
def doneL (first : Nat) (L : List (Option Bs)) (n : Int) (b : Bs) : List (Option Bs) := if doneErr first L n = 0 then (L.set (n - first).toNat (some b)).dropWhile Option.isSome else L

section
variable {U : Nat → Prop} {w w' : World} {g most first : Nat} {L : List (Option Bs)}
theorem Win.ext (h : Win U w g most first L) (e : Ext w w') : Win U w' g most first L := by
  obtain ⟨X, h1, h2, h3⟩ := h
  exact ⟨X, h1.ext e, h2, fun k hk => Nat.lt_of_lt_of_le (h3 k hk) e.size⟩
theorem Win.lt (h : Win U w g most first L) : ∀ k, U k → k < w.heap.size := by obtain ⟨X, _, _, h3⟩ := h; exact h3
theorem Win.shy {V : Nat → Prop} (h : Win U w g most first L) (e : Shy V w w') (hd : ∀ k, U k → ¬ V k) : Win U w' g most first L := by
  obtain ⟨X, ⟨h1, h2, h3, h4, b, h5, h6, h7, h8, h9⟩, e2, h10⟩ := h
  have hk : ∀ k, U k → w'.heap[k]? = w.heap[k]? := fun k hk => e.block k (h10 k hk) (hd k hk)
  refine ⟨X, ⟨h1, h2, h3, h4, b, h5, h6, (hk g h4).trans h7, ?_, fun x hx => ⟨e.rd (h9 x hx).1 fun k hb => hd k ((h9 x hx).2 k hb).1, (h9 x hx).2⟩⟩, e2, fun k hk => Nat.lt_of_lt_of_le (h10 k hk) e.size⟩
  obtain ⟨D, ⟨es, clock, hb, r1⟩, r2⟩ := h8
  exact ⟨D, ⟨es, clock, (hk b h5).trans hb, r1⟩, r2⟩
theorem Win.bds (h : Win U w g most first L) : 1 ≤ most ∧ most ≤ 64 ∧ 1 ≤ first := by
  obtain ⟨X, ⟨h1, h2, h3, _⟩, _⟩ := h
  exact ⟨h1, h2, h3⟩

theorem len_bytes (X : List Slot) : (bytesOf X).length = X.length := by simp [bytesOf]
theorem count_bytes (X : List Slot) : (bytesOf X).countP Option.isSome = X.countP Option.isSome := by
  unfold bytesOf
  rw [List.countP_map]
  congr 1
  funext x
  cases x <;> rfl

theorem win_new (most : Nat) (w : World) (h1 : 1 ≤ most) (h2 : most ≤ 64) :
    Calls Try.prog 10 #[.int .i64 most] w fun e w' => ∃ g, e = .returned (.tuple #[.pointer (some ⟨g, 0, none⟩), .int .i64 0]) ∧ Win (fun k => w.heap.size ≤ k ∧ k < w'.heap.size) w' g most 1 [] ∧ Ext w w' := by
  refine (new_ok most w h1 h2).mono ?_
  rintro e w' ⟨g, rfl, hw, hx⟩
  exact ⟨g, rfl, ⟨[], hw, rfl, fun k hk => hk.2⟩, hx⟩

/-- Open: what it tells. -/
def openS (most first : Nat) (L : List (Option Bs)) : Int × Int := if most ≤ L.length then (0, 8) else ((first : Int) + L.length, 0)
def openL (most : Nat) (L : List (Option Bs)) : List (Option Bs) := if most ≤ L.length then L else L ++ [none]

theorem win_open (h : Win U w g most first L) (hb : (first : Int) + L.length ≤ 1000000) :
    Calls Try.prog 11 #[.pointer (some ⟨g, 0, none⟩)] w fun e w' => e = .returned (.tuple #[.int .i64 (openS most first L).1, .int .i64 (openS most first L).2]) ∧ Win U w' g most first (openL most L) ∧ Shy U w w' := by
  obtain ⟨X, hX, rfl, hU⟩ := h
  rw [len_bytes] at hb
  unfold openS openL
  rw [len_bytes]
  by_cases hf : most ≤ X.length
  · rw [if_pos hf, if_pos hf]
    refine (open_full hX hb hf).mono ?_
    rintro e w' ⟨rfl, x⟩
    exact ⟨rfl, ⟨X, hX.ext x, rfl, fun k hk => Nat.lt_of_lt_of_le (hU k hk) x.size⟩, Shy.of_ext x⟩
  · rw [if_neg hf, if_neg hf]
    refine (open_ok hX hb hf).mono ?_
    rintro e w' ⟨rfl, hw, hg⟩
    have hs : Shy U w w' := (Shy.refl w).grown hg fun k hk _ => by cases hk; exact hX.2.2.2.1
    exact ⟨rfl, ⟨_, hw, bytes_none X, fun k hk => Nat.lt_of_lt_of_le (hU k hk) hs.size⟩, hs⟩

theorem set_bytes (X : List Slot) (i : Nat) (x : Option Addr × Nat × Bs) : bytesOf (X.set i (some x)) = (bytesOf X).set i (some x.2.2) := by simp [bytesOf, List.map_set]
theorem split_flush (O : List Sl) (Y : List Slot) (hY : ∀ y, Y[0]? ≠ some (some y)) :
    (bytesOf (O.map some ++ Y)).takeWhile Option.isSome = O.map (fun x => some x.2.2) ∧ (bytesOf (O.map some ++ Y)).dropWhile Option.isSome = bytesOf Y := by
  induction O with
  | nil =>
    cases Y with
    | nil => exact ⟨rfl, rfl⟩
    | cons y Y => cases y with
      | none => exact ⟨rfl, rfl⟩
      | some y => exact absurd rfl (hY y)
  | cons o O ih => exact ⟨by simpa [bytesOf] using ih.1, by simpa [bytesOf] using ih.2⟩

theorem win_done {A : Option Addr} {c : Nat} {l : Bs} (n : Int) (h : Win U w g most first L) (hb : (first : Int) + L.length ≤ 1000000) (hA : Rd w A c l) (hl : l.length ≤ 140737488355328) :
    Calls Try.prog 12 #[.pointer (some ⟨g, 0, none⟩), .int .i64 n, .slice A l.length c] w fun e w' => ∃ A' c', e = .returned (.tuple #[.slice A' (doneOut first L n l).length c', .int .i64 (doneErr first L n)]) ∧
      RdL w' A' (doneOut first L n l).length c' (doneOut first L n l) ∧ Win (More U w w') w' g most (first + (doneOut first L n l).length) (doneL first L n l) ∧ Shy U w w' := by
  obtain ⟨X, hX, rfl, hU⟩ := h
  rw [len_bytes] at hb
  unfold doneOut doneL
  by_cases h1 : n < first ∨ (first : Int) + X.length ≤ n
  · have e6 : doneErr first (bytesOf X) n = 6 := by unfold doneErr; rw [len_bytes, if_pos h1]
    simp only [e6, show ((6 : Int) = 0) = False from by decide, if_false]
    refine (done_missing n hX hb h1).mono ?_
    rintro e w' ⟨rfl, x⟩
    exact ⟨none, 0, rfl, RdL.none_ _, ⟨X, (hX.ext x).mono fun k hk => .inl hk, rfl, fun k hk => hk.elim (fun hk => Nat.lt_of_lt_of_le (hU k hk) x.size) (·.2)⟩, Shy.of_ext x⟩
  · obtain ⟨i, rfl⟩ : ∃ i : Nat, n = (first : Int) + i := ⟨(n - first).toNat, by omega⟩
    have hi : i < X.length := by omega
    have ei : ((first : Int) + i - first).toNat = i := by omega
    rw [ei]
    cases hx : X[i]? with
    | none => rw [List.getElem?_eq_none_iff] at hx; omega
    | some x =>
      cases x with
      | some x =>
        have e7 : doneErr first (bytesOf X) ((first : Int) + i) = 7 := by
          unfold doneErr
          rw [len_bytes, if_neg h1, ei]
          simp [bytesOf, hx]
        simp only [e7, show ((7 : Int) = 0) = False from by decide, if_false]
        refine (done_there hX hb hx).mono ?_
        rintro e w' ⟨rfl, x⟩
        exact ⟨none, 0, rfl, RdL.none_ _, ⟨X, (hX.ext x).mono fun k hk => .inl hk, rfl, fun k hk => hk.elim (fun hk => Nat.lt_of_lt_of_le (hU k hk) x.size) (·.2)⟩, Shy.of_ext x⟩
      | none =>
        have e0 : doneErr first (bytesOf X) ((first : Int) + i) = 0 := by
          unfold doneErr
          rw [len_bytes, if_neg h1, ei]
          simp [bytesOf, hx]
        simp only [e0, if_true]
        refine (done_ok hU hX hb hx hA hl).mono ?_
        rintro e w' ⟨A1, c1, O, Y, A2, c2, hO, hY, rfl, oo, hW, hR, hs⟩
        have hsp := split_flush O Y hY
        rw [← hO, set_bytes] at hsp
        simp only at hsp
        rw [hsp.1, hsp.2]
        have eO : List.filterMap id (List.map (fun x : Sl => some x.2.2) O) = O.map (·.2.2) := by
          rw [List.filterMap_map]
          simp
        rw [eO, List.length_map]
        have hsz := hs.size
        exact ⟨A2, c2, rfl, ⟨O, oo.rd, fun x hx => (hR x hx).1, rfl⟩, ⟨Y, hW, rfl, fun k hk => hk.elim (fun hk => Nat.lt_of_lt_of_le (hU k hk) hsz) (·.2)⟩, hs⟩

theorem win_len (h : Win U w g most first L) (hb : (first : Int) + L.length ≤ 1000000) :
    Calls Try.prog 15 #[.pointer (some ⟨g, 0, none⟩)] w fun e w' => e = .returned (.int .i64 L.length) ∧ ∃ m, w' = w.drewN m := by
  obtain ⟨X, hX, rfl, hU⟩ := h
  rw [len_bytes] at hb ⊢
  exact len_ok hX hb
theorem win_first (h : Win U w g most first L) (hb : (first : Int) + L.length ≤ 1000000) :
    Calls Try.prog 13 #[.pointer (some ⟨g, 0, none⟩)] w fun e w' => e = .returned (.int .i64 (if L.length = 0 then 0 else first)) ∧ ∃ m, w' = w.drewN m := by
  obtain ⟨X, hX, rfl, hU⟩ := h
  rw [len_bytes] at hb ⊢
  exact first_ok hX hb
theorem win_ready (h : Win U w g most first L) :
    Calls Try.prog 24 #[.pointer (some ⟨g, 0, none⟩)] w fun e w' => e = .returned (.int .i64 (L.countP Option.isSome)) ∧ w = w' := by
  obtain ⟨X, hX, rfl, hU⟩ := h
  rw [count_bytes]
  exact ready_ok hX
end
end Go.Proofs.Yteehicennefcbaa

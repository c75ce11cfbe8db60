/- The window and the document's, side by side. -/
import Derived.Test.YteehicennefcbaaOrdT
import Derived.Test.YteehicennefcbaaOrdF
namespace Go.Proofs.Yteehicennefcbaa
open Go.BK Go.RowKit
set_option linter.unusedVariables false

def Doc (V : Nat → Prop) (w : World) (v most least : Nat) (L : List (Option Bs)) : Prop := ∃ A c X, RefB V w v most least A c X ∧ bytesOf X = L
/-- The same as RdL, and where it lies. -/
def RdU (Q : Nat → Prop) (w : World) (A : Option Addr) (n c : Nat) (L : List Bs) : Prop :=
  ∃ S : List Sl, RdG w 1 A n c (S.map slv) ∧ (∀ x ∈ S, Rd w x.1 x.2.1 x.2.2 ∧ ∀ k, blk x.1 = some k → Q k) ∧ S.map (·.2.2) = L ∧ ∀ k, blk A = some k → Q k

section
variable {U V : Nat → Prop} {w w' : World} {g v most first least : Nat} {L : List (Option Bs)}
theorem RdU.shy {Q : Nat → Prop} {A : Option Addr} {n c : Nat} {L : List Bs} (h : RdU Q w A n c L) (s : Shy V w w') (hQ : ∀ k, Q k → ¬ V k) : RdL w' A n c L := by
  obtain ⟨S, h1, h2, h3, h4⟩ := h
  exact ⟨S, s.rdG h1 (fun k hk => hQ k (h4 k hk)), fun x hx => s.rd (h2 x hx).1 (fun k hk => hQ k ((h2 x hx).2 k hk)), h3⟩
theorem RdU.ext {Q : Nat → Prop} {A : Option Addr} {n c : Nat} {L : List Bs} (h : RdU Q w A n c L) (e : Ext w w') : RdU Q w' A n c L := by
  obtain ⟨S, h1, h2, h3, h4⟩ := h
  exact ⟨S, h1.ext e, fun x hx => ⟨(h2 x hx).1.ext e, (h2 x hx).2⟩, h3, h4⟩
theorem RdU.none_ (Q : Nat → Prop) (w : World) : RdU Q w none 0 0 [] := ⟨[], RdG.none_ w 1, by simp, rfl, by simp⟩

theorem Doc.lt (h : Doc V w v most least L) : ∀ k, V k → k < w.heap.size := by obtain ⟨A, c, X, h, _⟩ := h; exact h.lt
theorem Doc.shy {U : Nat → Prop} (h : Doc V w v most least L) (e : Shy U w w') (hd : ∀ k, V k → ¬ U k) : Doc V w' v most least L := by
  obtain ⟨A, c, X, h, hx⟩ := h
  exact ⟨A, c, X, h.shy e hd, hx⟩
theorem Doc.ext (h : Doc V w v most least L) (e : Ext w w') : Doc V w' v most least L := by
  obtain ⟨A, c, X, h, hx⟩ := h
  exact ⟨A, c, X, h.ext e, hx⟩
theorem Doc.cell (h : Doc V w v most least L) : ∃ A c, w.cell? ⟨v, 2, none⟩ = some (.slice A L.length c) := by
  obtain ⟨A, c, X, h, rfl⟩ := h
  exact ⟨A, c, by rw [len_bytes]; exact h.blk.cell 2⟩

theorem doc_first (h : Doc V w v most least L) :
    Calls Try.prog 23 #[.pointer (some ⟨v, 0, none⟩)] w fun e w' => e = .returned (.int .i64 (if L.length = 0 then 0 else least)) ∧ w = w' := by
  obtain ⟨A, c, X, h, rfl⟩ := h
  rw [len_bytes]
  exact ref_first h
theorem doc_ready (h : Doc V w v most least L) (hb : L.length ≤ 1000000) :
    Calls Try.prog 25 #[.pointer (some ⟨v, 0, none⟩)] w fun e w' => e = .returned (.int .i64 (L.countP Option.isSome)) ∧ w = w' := by
  obtain ⟨A, c, X, h, rfl⟩ := h
  rw [len_bytes] at hb
  rw [count_bytes]
  exact ref_ready h hb
theorem doc_new (most : Nat) (w : World) (h1 : 1 ≤ most) (h2 : most ≤ 64) :
    Calls Try.prog 17 #[.int .i64 most] w fun e w' => ∃ v, e = .returned (.tuple #[.pointer (some ⟨v, 0, none⟩), .int .i64 0]) ∧ Doc (fun k => w.heap.size ≤ k ∧ k < w'.heap.size) w' v most 1 [] ∧ Ext w w' := by
  refine (ref_new most w h1 h2).mono ?_
  rintro e w' ⟨v, rfl, h, x⟩
  exact ⟨v, rfl, ⟨_, _, _, h, rfl⟩, x⟩
theorem RefB.more {A : Option Addr} {c : Nat} {X : List Slot} (h : RefB V w v most least A c X) (e : Ext w w') : RefB (More V w w') w' v most least A c X :=
  (h.ext e).mono (fun k hk => .inl hk) (fun k hk => hk.elim (fun hk => Nat.lt_of_lt_of_le (h.lt k hk) e.size) (·.2))
theorem doc_open (h : Doc V w v most least L) (hb : (least : Int) + L.length ≤ 1000000) :
    Calls Try.prog 18 #[.pointer (some ⟨v, 0, none⟩)] w fun e w' => e = .returned (.tuple #[.int .i64 (openS most least L).1, .int .i64 (openS most least L).2]) ∧ Doc (More V w w') w' v most least (openL most L) ∧ Shy V w w' := by
  obtain ⟨A, c, X, hX, rfl⟩ := h
  rw [len_bytes] at hb
  unfold openS openL
  rw [len_bytes]
  by_cases hf : most ≤ X.length
  · rw [if_pos hf, if_pos hf]
    refine (ref_open_full hX hf (by omega)).mono ?_
    rintro e w' ⟨rfl, x⟩
    exact ⟨rfl, ⟨A, c, X, hX.more x, rfl⟩, Shy.of_ext x⟩
  · rw [if_neg hf, if_neg hf]
    refine (ref_open_ok hX hf hb).mono ?_
    rintro e w' ⟨rfl, ⟨A', c', hw⟩, hg⟩
    exact ⟨rfl, ⟨A', c', _, hw, bytes_none X⟩, hg⟩
theorem doc_done {B : Option Addr} {cb : Nat} {l : Bs} (n : Int) (h : Doc V w v most least L) (hb : (least : Int) + L.length ≤ 1000000) (h63 : n ≤ 9223372036854775807) (hB : Rd w B cb l) (hl : l.length ≤ 140737488355328) :
    Calls Try.prog 20 #[.pointer (some ⟨v, 0, none⟩), .int .i64 n, .slice B l.length cb] w fun e w' => ∃ A' c', e = .returned (.tuple #[.slice A' (doneOut least L n l).length c', .int .i64 (doneErr least L n)]) ∧
      RdL w' A' (doneOut least L n l).length c' (doneOut least L n l) ∧ Doc (More V w w') w' v most (least + (doneOut least L n l).length) (doneL least L n l) ∧ Shy V w w' := by
  obtain ⟨A, c, X, hX, rfl⟩ := h
  rw [len_bytes] at hb
  unfold doneOut doneL
  by_cases h1 : n < least ∨ (least : Int) + X.length ≤ n
  · have e6 : doneErr least (bytesOf X) n = 6 := by unfold doneErr; rw [len_bytes, if_pos h1]
    simp only [e6, show ((6 : Int) = 0) = False from by decide, if_false]
    refine (ref_done_missing n hX hb h1 h63).mono ?_
    rintro e w' ⟨rfl, x⟩
    exact ⟨none, 0, rfl, RdL.none_ _, ⟨A, c, X, hX.more x, rfl⟩, Shy.of_ext x⟩
  · obtain ⟨i, rfl⟩ : ∃ i : Nat, n = (least : Int) + i := ⟨(n - least).toNat, by omega⟩
    have hi : i < X.length := by omega
    have ei : ((least : Int) + i - least).toNat = i := by omega
    rw [ei]
    cases hx : X[i]? with
    | none => rw [List.getElem?_eq_none_iff] at hx; omega
    | some x =>
      cases x with
      | some x =>
        have e7 : doneErr least (bytesOf X) ((least : Int) + i) = 7 := by
          unfold doneErr
          rw [len_bytes, if_neg h1, ei]
          simp [bytesOf, hx]
        simp only [e7, show ((7 : Int) = 0) = False from by decide, if_false]
        refine (ref_done_there hX hb hx).mono ?_
        rintro e w' ⟨rfl, x⟩
        exact ⟨none, 0, rfl, RdL.none_ _, ⟨A, c, X, hX.more x, rfl⟩, Shy.of_ext x⟩
      | none =>
        have e0 : doneErr least (bytesOf X) ((least : Int) + i) = 0 := by
          unfold doneErr
          rw [len_bytes, if_neg h1, ei]
          simp [bytesOf, hx]
        simp only [e0, if_true]
        refine (ref_done_ok hX hb hx hB hl).mono ?_
        rintro e w' ⟨A1, c1, O, Y, A2, c2, A', c', hO, hY, rfl, oo, hW, hR, hs⟩
        have hsp := split_flush O Y hY
        rw [← hO, set_bytes] at hsp
        simp only at hsp
        rw [hsp.1, hsp.2]
        have eO : List.filterMap id (List.map (fun x : Sl => some x.2.2) O) = O.map (·.2.2) := by
          rw [List.filterMap_map]
          simp
        rw [eO, List.length_map]
        exact ⟨A2, c2, rfl, ⟨O, oo.rd, hR, rfl⟩, ⟨A', c', Y, hW, rfl⟩, hs⟩

theorem win_done2 {A : Option Addr} {c : Nat} {l : Bs} (n : Int) (h : Win U w g most first L) (hb : (first : Int) + L.length ≤ 1000000) (hA : Rd w A c l) (hl : l.length ≤ 140737488355328) :
    Calls Try.prog 12 #[.pointer (some ⟨g, 0, none⟩), .int .i64 n, .slice A l.length c] w fun e w' => ∃ A' c', e = .returned (.tuple #[.slice A' (doneOut first L n l).length c', .int .i64 (doneErr first L n)]) ∧
      RdU (More U w w') w' A' (doneOut first L n l).length c' (doneOut first L n l) ∧ Win (More U w w') w' g most (first + (doneOut first L n l).length) (doneL first L n l) ∧ Shy U w w' := by
  obtain ⟨X, hX, rfl, hU⟩ := h
  rw [len_bytes] at hb
  unfold doneOut doneL
  by_cases h1 : n < first ∨ (first : Int) + X.length ≤ n
  · have e6 : doneErr first (bytesOf X) n = 6 := by unfold doneErr; rw [len_bytes, if_pos h1]
    simp only [e6, show ((6 : Int) = 0) = False from by decide, if_false]
    refine (done_missing n hX hb h1).mono ?_
    rintro e w' ⟨rfl, x⟩
    exact ⟨none, 0, rfl, RdU.none_ _ _, ⟨X, (hX.ext x).mono fun k hk => .inl hk, rfl, fun k hk => hk.elim (fun hk => Nat.lt_of_lt_of_le (hU k hk) x.size) (·.2)⟩, Shy.of_ext x⟩
  · obtain ⟨i, rfl⟩ : ∃ i : Nat, n = (first : Int) + i := ⟨(n - first).toNat, by omega⟩
    have hi : i < X.length := by omega
    have ei : ((first : Int) + i - first).toNat = i := by omega
    rw [ei]
    cases hx : X[i]? with
    | none => rw [List.getElem?_eq_none_iff] at hx; omega
    | some x =>
      cases x with
      | some x =>
        have e7 : doneErr first (bytesOf X) ((first : Int) + i) = 7 := by
          unfold doneErr
          rw [len_bytes, if_neg h1, ei]
          simp [bytesOf, hx]
        simp only [e7, show ((7 : Int) = 0) = False from by decide, if_false]
        refine (done_there hX hb hx).mono ?_
        rintro e w' ⟨rfl, x⟩
        exact ⟨none, 0, rfl, RdU.none_ _ _, ⟨X, (hX.ext x).mono fun k hk => .inl hk, rfl, fun k hk => hk.elim (fun hk => Nat.lt_of_lt_of_le (hU k hk) x.size) (·.2)⟩, Shy.of_ext x⟩
      | none =>
        have e0 : doneErr first (bytesOf X) ((first : Int) + i) = 0 := by
          unfold doneErr
          rw [len_bytes, if_neg h1, ei]
          simp [bytesOf, hx]
        simp only [e0, if_true]
        refine (done_ok hU hX hb hx hA hl).mono ?_
        rintro e w' ⟨A1, c1, O, Y, A2, c2, hO, hY, rfl, oo, hW, hR, hs⟩
        have hsp := split_flush O Y hY
        rw [← hO, set_bytes] at hsp
        simp only at hsp
        rw [hsp.1, hsp.2]
        have eO : List.filterMap id (List.map (fun x : Sl => some x.2.2) O) = O.map (·.2.2) := by
          rw [List.filterMap_map]
          simp
        rw [eO, List.length_map]
        have hsz := hs.size
        exact ⟨A2, c2, rfl, ⟨O, oo.rd, hR, rfl, fun k hk => .inr (oo.lt k hk)⟩, ⟨Y, hW, rfl, fun k hk => hk.elim (fun hk => Nat.lt_of_lt_of_le (hU k hk) hsz) (·.2)⟩, hs⟩
end

/-- Both windows: made behind b0, apart; none of their blocks is of N, none of the document's of M. -/
def Duo (b0 : Nat) (N M : Nat → Prop) (w : World) (g v most f1 : Nat) (L1 : List (Option Bs)) (f2 : Nat) (L2 : List (Option Bs)) : Prop :=
  ∃ U V : Nat → Prop, Win U w g most f1 L1 ∧ Doc V w v most f2 L2 ∧ (∀ k, U k → b0 ≤ k ∧ ¬ V k ∧ ¬ N k) ∧ ∀ k, V k → b0 ≤ k ∧ ¬ N k ∧ ¬ M k
abbrev No : Nat → Prop := fun _ => False
section
variable {b0 : Nat} {N M : Nat → Prop} {w w' : World} {g v most f1 f2 : Nat} {L1 L2 : List (Option Bs)}
theorem Duo.ext (h : Duo b0 N M w g v most f1 L1 f2 L2) (e : Ext w w') : Duo b0 N M w' g v most f1 L1 f2 L2 := by
  obtain ⟨U, V, h1, h2, h3, h4⟩ := h
  exact ⟨U, V, h1.ext e, h2.ext e, h3, h4⟩
theorem Duo.less {N' M' : Nat → Prop} (h : Duo b0 N M w g v most f1 L1 f2 L2) (hN : ∀ k, N' k → N k) (hM : ∀ k, M' k → M k ∨ N k) : Duo b0 N' M' w g v most f1 L1 f2 L2 := by
  obtain ⟨U, V, h1, h2, h3, h4⟩ := h
  exact ⟨U, V, h1, h2, fun k hk => ⟨(h3 k hk).1, (h3 k hk).2.1, fun h => (h3 k hk).2.2 (hN k h)⟩, fun k hk => ⟨(h4 k hk).1, fun h => (h4 k hk).2.1 (hN k h), fun h => (hM k h).elim (h4 k hk).2.2 (h4 k hk).2.1⟩⟩
/-- What is new is of neither. -/
theorem Duo.fresh (h : Duo b0 N M w g v most f1 L1 f2 L2) (e : Ext w w') : Duo b0 (fun k => w.heap.size ≤ k) No w' g v most f1 L1 f2 L2 := by
  obtain ⟨U, V, h1, h2, h3, h4⟩ := h
  have l1 := h1.lt
  have l2 := h2.lt
  exact ⟨U, V, h1.ext e, h2.ext e, fun k hk => ⟨(h3 k hk).1, (h3 k hk).2.1, by have := l1 k hk; simp only; omega⟩, fun k hk => ⟨(h4 k hk).1, by have := l2 k hk; simp only; omega, id⟩⟩
theorem Duo.over (h : Duo b0 N M w g v most f1 L1 f2 L2) (s : Shy N w w') : Duo b0 N M w' g v most f1 L1 f2 L2 := by
  obtain ⟨U, V, h1, h2, h3, h4⟩ := h
  exact ⟨U, V, h1.shy s (fun k hk => (h3 k hk).2.2), h2.shy s (fun k hk => (h4 k hk).2.1), h3, h4⟩
theorem duo_open (h : Duo b0 N M w g v most f1 L1 f2 L2) (hb : (f1 : Int) + L1.length ≤ 1000000) (h0 : b0 ≤ w.heap.size) :
    Calls Try.prog 11 #[.pointer (some ⟨g, 0, none⟩)] w fun e w' => e = .returned (.tuple #[.int .i64 (openS most f1 L1).1, .int .i64 (openS most f1 L1).2]) ∧ Duo b0 N M w' g v most f1 (openL most L1) f2 L2 ∧ Below b0 w w' := by
  obtain ⟨U, V, h1, h2, h3, h4⟩ := h
  refine (win_open h1 hb).mono ?_
  rintro e w' ⟨rfl, hw, s⟩
  exact ⟨rfl, ⟨U, V, hw, h2.shy s (fun k hk hu => (h3 k hu).2.1 hk), h3, h4⟩, s.below h0 fun k hk hu => by have := (h3 k hu).1; omega⟩
theorem duo_ropen (h : Duo b0 N M w g v most f1 L1 f2 L2) (hb : (f2 : Int) + L2.length ≤ 1000000) (h0 : b0 ≤ w.heap.size) (hN : ∀ k, N k ∨ M k → k < w.heap.size) :
    Calls Try.prog 18 #[.pointer (some ⟨v, 0, none⟩)] w fun e w' => e = .returned (.tuple #[.int .i64 (openS most f2 L2).1, .int .i64 (openS most f2 L2).2]) ∧ Duo b0 N M w' g v most f1 L1 f2 (openL most L2) ∧ Below b0 w w' := by
  obtain ⟨U, V, h1, h2, h3, h4⟩ := h
  refine (doc_open h2 hb).mono ?_
  rintro e w' ⟨rfl, hw, s⟩
  have l1 := h1.lt
  refine ⟨rfl, ⟨U, More V w w', h1.shy s (fun k hk => (h3 k hk).2.1), hw, fun k hk => ⟨(h3 k hk).1, fun hv => hv.elim (h3 k hk).2.1 (fun h => by have := l1 k hk; omega), (h3 k hk).2.2⟩, fun k hk => ?_⟩, s.below h0 fun k hk hu => by have := (h4 k hu).1; omega⟩
  rcases hk with hk | hk
  · exact h4 k hk
  · exact ⟨by omega, fun h => by have := hN k (.inl h); omega, fun h => by have := hN k (.inr h); omega⟩
theorem duo_done {A : Option Addr} {c : Nat} {l : Bs} (n : Int) (h : Duo b0 N M w g v most f1 L1 f2 L2) (hb : (f1 : Int) + L1.length ≤ 1000000) (h0 : b0 ≤ w.heap.size) (hN : ∀ k, N k → k < w.heap.size) (hA : Rd w A c l) (hl : l.length ≤ 140737488355328) :
    Calls Try.prog 12 #[.pointer (some ⟨g, 0, none⟩), .int .i64 n, .slice A l.length c] w fun e w' => ∃ A' c' Q, e = .returned (.tuple #[.slice A' (doneOut f1 L1 n l).length c', .int .i64 (doneErr f1 L1 n)]) ∧
      RdU Q w' A' (doneOut f1 L1 n l).length c' (doneOut f1 L1 n l) ∧ Duo b0 N Q w' g v most (f1 + (doneOut f1 L1 n l).length) (doneL f1 L1 n l) f2 L2 ∧ Below b0 w w' ∧ Shy (fun k => ¬ N k) w w' ∧ ∀ k, Q k → k < w'.heap.size := by
  obtain ⟨U, V, h1, h2, h3, h4⟩ := h
  refine (win_done2 n h1 hb hA hl).mono ?_
  rintro e w' ⟨A', c', rfl, hr, hw, s⟩
  have l1 := h1.lt
  have l2 := h2.lt
  have hsz := s.size
  refine ⟨A', c', More U w w', rfl, hr, ⟨More U w w', V, hw, h2.shy s (fun k hk hu => (h3 k hu).2.1 hk), fun k hk => ?_, fun k hk => ⟨(h4 k hk).1, (h4 k hk).2.1, fun hu => ?_⟩⟩, s.below h0 fun k hk hu => by have := (h3 k hu).1; omega, s.mono fun k _ hu => (h3 k hu).2.2, fun k hk => hk.elim (fun h => Nat.lt_of_lt_of_le (l1 k h) hsz) (·.2)⟩
  · rcases hk with hk | hk
    · exact h3 k hk
    · exact ⟨by omega, fun h => by have := l2 k h; omega, fun h => by have := hN k h; omega⟩
  · rcases hu with hu | hu
    · exact (h3 k hu).2.1 hk
    · have := l2 k hk; omega
theorem duo_rdone {B : Option Addr} {cb : Nat} {l : Bs} (n : Int) (h : Duo b0 N M w g v most f1 L1 f2 L2) (hb : (f2 : Int) + L2.length ≤ 1000000) (h63 : n ≤ 9223372036854775807) (h0 : b0 ≤ w.heap.size) (hN : ∀ k, N k → k < w.heap.size) (hB : Rd w B cb l) (hl : l.length ≤ 140737488355328) :
    Calls Try.prog 20 #[.pointer (some ⟨v, 0, none⟩), .int .i64 n, .slice B l.length cb] w fun e w' => ∃ A' c', e = .returned (.tuple #[.slice A' (doneOut f2 L2 n l).length c', .int .i64 (doneErr f2 L2 n)]) ∧
      RdL w' A' (doneOut f2 L2 n l).length c' (doneOut f2 L2 n l) ∧ Duo b0 N No w' g v most f1 L1 (f2 + (doneOut f2 L2 n l).length) (doneL f2 L2 n l) ∧ Below b0 w w' ∧ Shy (fun k => ¬ N k ∧ ¬ M k) w w' := by
  obtain ⟨U, V, h1, h2, h3, h4⟩ := h
  refine (doc_done n h2 hb h63 hB hl).mono ?_
  rintro e w' ⟨A', c', rfl, hr, hw, s⟩
  have l1 := h1.lt
  refine ⟨A', c', rfl, hr, ⟨U, More V w w', h1.shy s (fun k hk => (h3 k hk).2.1), hw, fun k hk => ⟨(h3 k hk).1, fun hv => hv.elim (h3 k hk).2.1 (fun h => by have := l1 k hk; omega), (h3 k hk).2.2⟩, fun k hk => ?_⟩, s.below h0 fun k hk hu => by have := (h4 k hu).1; omega, s.mono fun k _ hu => (h4 k hu).2⟩
  rcases hk with hk | hk
  · exact ⟨(h4 k hk).1, (h4 k hk).2.1, id⟩
  · exact ⟨by omega, fun h => by have := hN k h; omega, id⟩
end
end Go.Proofs.Yteehicennefcbaa

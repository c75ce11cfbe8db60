/- order.Window in memory: what a store into its map, and a step of the flush, leave. -/
import Derived.Test.YteehicennefcbaaOrdC
import Derived.Test.YteehicennefcbaaKitU
namespace Go.Proofs.Yteehicennefcbaa
open Go.BK Go.RowKit
set_option linter.unusedVariables false

structure WinB (U : Nat → Prop) (w : World) (g b most first : Nat) (X : List Slot) : Prop where
  m1 : 1 ≤ most
  m64 : most ≤ 64
  f1 : 1 ≤ first
  ug : U g
  ub : U b
  ne : g ≠ b
  blk : Blk w g 53 #[.int .i64 most, .int .i64 first, .int .i64 ((first : Int) + X.length), .map (some b)]
  map : MapF Try.prog w 3 b (tab first (X.map (Option.map sv))) (X.countP Option.isSome)
  slots : ∀ x, some x ∈ X → Rd w x.1 x.2.1 x.2.2 ∧ ∀ k, Go.BK.blk x.1 = some k → U k ∧ k ≠ g ∧ k ≠ b

section
variable {U : Nat → Prop} {w w1 : World} {g b most first : Nat} {X Y : List Slot}
theorem WinR.atB (h : WinR U w g most first X) : ∃ b, WinB U w g b most first X := by
  obtain ⟨h1, h2, h3, h4, b, h5, h6, h7, h8, h9⟩ := h
  exact ⟨b, h1, h2, h3, h4, h5, h6, h7, h8, h9⟩
theorem WinB.r (h : WinB U w g b most first X) : WinR U w g most first X := ⟨h.m1, h.m64, h.f1, h.ug, b, h.ub, h.ne, h.blk, h.map, h.slots⟩
theorem WinB.ext (h : WinB U w g b most first X) (e : Ext w w1) : WinB U w1 g b most first X :=
  ⟨h.m1, h.m64, h.f1, h.ug, h.ub, h.ne, h.blk.ext e, h.map.ext e, fun x hx => ⟨(h.slots x hx).1.ext e, (h.slots x hx).2⟩⟩
/-- What a write into another block leaves. -/
theorem WinB.grown {row : Option Nat} (h : WinB U w g b most first X) (e : w.grownBy w1 row) (hr : ∀ k, row = some k → ¬ U k) : WinB U w1 g b most first X :=
  ⟨h.m1, h.m64, h.f1, h.ug, h.ub, h.ne, h.blk.grown e (fun e => hr g e.symm h.ug), h.map.kept e (fun e => hr b e.symm h.ub), fun x hx => ⟨(h.slots x hx).1.grown e (fun h0 e2 => by
    obtain ⟨k, hk, _⟩ := (h.slots x hx).1.lt h0
    exact hr k (by rw [← e2, hk]) ((h.slots x hx).2 k hk).1), (h.slots x hx).2⟩⟩

theorem count_put {i : Nat} {x : Option Addr × Nat × List UInt8} : ∀ {X : List Slot}, X[i]? = some none → (X.set i (some x)).countP Option.isSome = X.countP Option.isSome + 1 := by
  induction i with
  | zero => intro X h; cases X with
    | nil => simp at h
    | cons a r => simp at h; subst h; simp
  | succ i ih => intro X h; cases X with
    | nil => simp at h
    | cons a r => simp only [List.getElem?_cons_succ] at h; simp only [List.set_cons_succ, List.countP_cons, ih h]; omega

theorem WinB.put {i c : Nat} {A : Option Addr} {l : List UInt8} (h : WinB U w g b most first X) (hx : X[i]? = some none) (hb : (first : Int) + X.length ≤ 1000000) (e : Ext w w1) (o : Own w1 w.heap.size 5 A c l) :
    ∃ w2, (Instr.mapUpdate 51 (.map (some b)) (.int .i64 ((first : Int) + i)) (.slice A l.length c)).run Try.prog w1 = .ok () w2 ∧
      WinB (fun k => U k ∨ (w.heap.size ≤ k ∧ k < w2.heap.size)) w2 g b most first (X.set i (some (A, c, l))) ∧ w1.grownBy w2 (some b) := by
  have hi : i < X.length := (List.getElem?_eq_some_iff.1 hx).1
  have h' := h.ext e
  have hgl := h.blk.lt
  have hbl := h.map.lt
  have hcnt : X.countP Option.isSome ≤ X.length := List.countP_le_length
  obtain ⟨w2, hrun, hm, ht⟩ := h'.map.store keyed_int Try.underlying51 (by unfold maxLen; omega) (key_int (a := (first : Int) + i) (by omega)) (.slice A l.length c)
  have hgr := ht.grown
  refine ⟨w2, hrun, ⟨h.m1, h.m64, h.f1, .inl h.ug, .inl h.ub, h.ne, ?_, ?_, fun x hxm => ?_⟩, hgr⟩
  · have := h'.blk.grown hgr (by simpa using h.ne)
    rw [List.length_set]; exact this
  · rw [tab_put _ _ _ _ (by simpa using hi), tab_at, List.getElem?_map, hx] at hm
    rw [count_put hx, List.map_set]
    simpa [sv] using hm
  · rcases List.mem_or_eq_of_mem_set hxm with h1 | h1
    · have := h'.slots x h1
      exact ⟨this.1.grown hgr (fun h0 e2 => (this.2 b e2).2.2 rfl), fun k hk => ⟨.inl (this.2 k hk).1, (this.2 k hk).2⟩⟩
    · cases h1
      have hlt := fun k (hk : Go.BK.blk A = some k) => o.lt k hk
      exact ⟨o.rd.grown hgr (fun h0 e2 => by have := (hlt b e2).1; omega), fun k hk => ⟨.inr ⟨(hlt k hk).1, Nat.lt_of_lt_of_le (hlt k hk).2 hgr.size⟩, by have := (hlt k hk).1; omega, by have := (hlt k hk).1; omega⟩⟩

theorem WinB.pop {x : Option Addr × Nat × List UInt8} (h : WinB U w g b most first (some x :: Y)) (hb : (first : Int) + (Y.length + 1) ≤ 1000000) :
    ∃ w2, (Builtin.delete_ #[51, 3] 0 #[.map (some b), .int .i64 first]).run Try.prog w = .ok (.tuple #[]) w2 ∧ w.grownBy w2 (some b) ∧
      WinB U (w2.setCell ⟨g, 1, none⟩ (.int .i64 ((first : Int) + 1))) g b most (first + 1) Y := by
  obtain ⟨w2, hrun, hm, ht⟩ := h.map.drop keyed_int Try.underlying51 (key_int (a := (first : Int)) (by omega)) 0
  have hgr := ht.grown
  have hg2 : w2.grownBy (w2.setCell ⟨g, 1, none⟩ (.int .i64 ((first : Int) + 1))) (some g) := grown_of_set (grown_refl _ _) (.inl rfl) 1 _
  refine ⟨w2, hrun, hgr, ⟨h.m1, h.m64, by omega, h.ug, h.ub, h.ne, ?_, ?_, fun y hy => ?_⟩⟩
  · have := (h.blk.grown hgr (by simpa using h.ne)).set_ 1 (.int .i64 ((first : Int) + 1))
    have e : ((first + 1 : Nat) : Int) + Y.length = (first : Int) + ((some x :: Y).length : Nat) := by simp; omega
    rw [e, Int.natCast_add]
    exact this
  · have := hm.kept hg2 (by simpa using fun e => h.ne e.symm)
    rw [List.map_cons, tab_del] at this
    have e : tab first (Option.map sv (some x) :: List.map (Option.map sv) Y) (.int .i64 (first : Int)) = some (sv x) := by
      have := tab_at first 0 (Option.map sv (some x) :: List.map (Option.map sv) Y)
      simpa using this
    rw [e] at this
    simpa using this
  · have := h.slots y (List.mem_cons_of_mem _ hy)
    exact ⟨(this.1.grown hgr (fun h0 e2 => (this.2 b e2).2.2 rfl)).grown hg2 (fun h0 e2 => (this.2 g e2).2.1 rfl), this.2⟩
end

end Go.Proofs.Yteehicennefcbaa

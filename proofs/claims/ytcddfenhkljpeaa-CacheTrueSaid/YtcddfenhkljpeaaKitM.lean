/- Words for maps in memory: a map as a partial function from keys to values, the values as they stand. -/
import Derived.Test.YtcddfenhkljpeaaKitA
import Derived.Maps.Own
import Derived.Maps.OwnSet
import Derived.Maps.Views
import Derived.Maps.Keyed
namespace Go.BK
open Go.RowKit Go.Maps
set_option linter.unusedVariables false
open Go.WideElems (Fit rd rg pl rd_val elemAt)

abbrev RV : Value → Option (DataW Value × List MemPlace) := fun v => some (.held v, [])
def heldOf : DataW Value → Value
  | .held v => v
  | _ => undef

/-- What a datum has at a key. -/
def getF (D : DataW Value) (k : Lit) : Option Value := if has D k then some (heldOf (D.atKey k .nil)) else none

/-- Block b is a map with s entries that f tells. -/
def MapF (P : Program) (w : World) (k : TypeId) (b : Nat) (f : Lit → Option Value) (s : Nat) : Prop :=
  ∃ D, w.ownsMap P k RV b s D ∧ size D = s ∧ ∀ x, WideAt.IsKeyLit x → f x = getF D x

open Classical in
noncomputable def putF (f : Lit → Option Value) (k : Lit) (v : Value) : Lit → Option Value := fun x => if x = k then some v else f x
open Classical in
noncomputable def delF (f : Lit → Option Value) (k : Lit) : Lit → Option Value := fun x => if x = k then none else f x

section
variable {P : Program} {w : World} {k : TypeId} {b s : Nat} {f : Lit → Option Value}

theorem MapF.made (w : World) (P : Program) (k : TypeId) : MapF P (w.alloc (.map #[] 0)) k w.heap.size (fun _ => none) 0 :=
  ⟨.map [], World.ownsMap_made w P k RV, rfl, fun x _ => by simp [getF, has_eq]⟩
theorem MapF.lt (h : MapF P w k b f s) : b < w.heap.size := by obtain ⟨D, h, _⟩ := h; exact h.lt
theorem MapF.kept {w' : World} {row : Option Nat} (h : MapF P w k b f s) (hg : w.grownBy w' row) (hne : some b ≠ row) : MapF P w' k b f s := by
  obtain ⟨D, h, r⟩ := h; exact ⟨D, h.kept hg hne, r⟩
theorem MapF.alloc (h : MapF P w k b f s) (o : Obj) : MapF P (w.alloc o) k b f s := by obtain ⟨D, h, r⟩ := h; exact ⟨D, h.alloc o, r⟩
theorem MapF.ext {w' : World} (h : MapF P w k b f s) (e : Ext w w') : MapF P w' k b f s := by
  obtain ⟨D, ⟨es, clock, hb, r1⟩, r2⟩ := h
  exact ⟨D, ⟨es, clock, (e.block b (Array.getElem?_eq_some_iff.1 hb).1).trans hb, r1⟩, r2⟩
theorem MapF.setCell (h : MapF P w k b f s) {a : Addr} (ha : b ≠ a.block) (u : Value) : MapF P (w.setCell a u) k b f s := by
  obtain ⟨D, h, r⟩ := h; exact ⟨D, h.setCell ha u, r⟩
theorem MapF.congr (h : MapF P w k b f s) {g : Lit → Option Value} (e : ∀ x, g x = f x) : MapF P w k b g s := by
  rw [show g = f from funext e]; exact h

theorem getF_none {D : DataW Value} {x : Lit} (h : has D x = false) : getF D x = none := by simp [getF, h]
theorem getF_some {D : DataW Value} {x : Lit} (h : has D x = true) : getF D x = some (heldOf (D.atKey x .nil)) := by simp [getF, h]

theorem MapF.look {t e : TypeId} (h : MapF P w k b f s) (K : Keyed P k) (ht : P.underlying t = some (.map k e)) {z : Value} (hz : (zeroValue e).run P w = .ok z w)
    {key : Value} {kl : Lit} (hkey : keyOf P k key = some kl) (c : Bool) : (Instr.lookup t (.map (some b)) key c).run P w = .ok (if c then .tuple #[(f kl).getD z, .bool (f kl).isSome] else (f kl).getD z) w := by
  obtain ⟨D, ⟨es, clock, hb, F, hs, rfl⟩, hD, hf⟩ := h
  rw [hf kl (K.key hkey)]
  rcases Maps.fit_look c K ht hz hb F hkey with ⟨hrun, _, hat⟩ | ⟨e0, y, _, _, hrun, hRv, hat, _⟩
  · rw [getF_none (Maps.has_false_of_atKey hat), hrun]; simp
  · rw [getF_some (Maps.has_true_of_atKey hat), hrun, hat]
    simp only [RV, Option.some.injEq] at hRv
    subst hRv
    simp [heldOf]

theorem MapF.len {t e : TypeId} (h : MapF P w k b f s) (ht : P.underlying t = some (.map k e)) (ty : TypeId) : (Builtin.len_ #[t] ty #[.map (some b)]).run P w = .ok (.int .i64 s) w := by
  obtain ⟨D, h, hD, _⟩ := h
  rw [h.len ht ty, hD]

theorem getF_put {D : DataW Value} {kl : Lit} (hD : IsMap D) (hk : WideAt.IsKeyLit kl) (v : Value) (x : Lit) : getF (D.put kl (.held v)) x = putF (getF D) kl v x := by
  unfold putF
  by_cases h : x = kl
  · subst h
    rw [if_pos rfl, getF_some (has_put_same hD hk _), atKey_put_same hD hk]; rfl
  · rw [if_neg h]
    unfold getF
    rw [has_put_other h, atKey_put_other h]
theorem getF_del {D : DataW Value} {kl : Lit} (x : Lit) : getF (D.del kl) x = delF (getF D) kl x := by
  unfold delF
  by_cases h : x = kl
  · subst h
    rw [if_pos rfl, getF_none has_del_same]
  · rw [if_neg h]
    unfold getF
    rw [has_del_other h, atKey_del_other h]
theorem getF_isSome (D : DataW Value) (x : Lit) : (getF D x).isSome = has D x := by
  unfold getF; cases has D x <;> simp

/-- The bound may always be the number of the entries. -/
theorem owns_size {w : World} {D : DataW Value} {n : Nat} (h : w.ownsMap P k RV b n D) : w.ownsMap P k RV b (size D) D := by
  obtain ⟨es, clock, hb, F, hs, rfl⟩ := h
  exact ⟨es, clock, hb, F, by simp [Maps.size, length_sorted], rfl⟩

theorem MapF.store {t e : TypeId} (h : MapF P w k b f s) (K : Keyed P k) (ht : P.underlying t = some (.map k e)) (hn : s < maxLen) {key : Value} {kl : Lit} (hkey : keyOf P k key = some kl) (val : Value) :
    ∃ w', (Instr.mapUpdate t (.map (some b)) key val).run P w = .ok () w' ∧ MapF P w' k b (putF f kl val) (if (f kl).isSome then s else s + 1) ∧ w.mapTurned w' b := by
  obtain ⟨D, h, hD, hf⟩ := h
  obtain ⟨w', hrun, ho, ht'⟩ := h.store K ht hn hkey (d := .held val) (ps := []) rfl
  have hsz := size_put (k := kl) (h.tidy K) (.held val)
  refine ⟨w', hrun, ⟨D.put kl (.held val), ?_, ?_, fun x hx => ?_⟩, ht'⟩
  · have := owns_size ho
    rw [hsz, hD] at this
    rw [hf kl (K.key hkey), getF_isSome]
    exact this
  · rw [hsz, hD, hf kl (K.key hkey), getF_isSome]
  · rw [getF_put h.isMap (K.key hkey)]
    unfold putF
    rw [hf x hx]

theorem MapF.drop {t e : TypeId} (h : MapF P w k b f s) (K : Keyed P k) (ht : P.underlying t = some (.map k e)) {key : Value} {kl : Lit} (hkey : keyOf P k key = some kl) (ty : TypeId) :
    ∃ w', (Builtin.delete_ #[t, k] ty #[.map (some b), key]).run P w = .ok (.tuple #[]) w' ∧ MapF P w' k b (delF f kl) (if (f kl).isSome then s - 1 else s) ∧ w.mapTurned w' b := by
  obtain ⟨D, h, hD, hf⟩ := h
  obtain ⟨w', hrun, ho, ht'⟩ := h.drop K ht hkey ty
  have hsz := size_del (k := kl) (h.tidy K)
  have hsz' : size (D.del kl) = if has D kl then s - 1 else s := by
    rw [hD] at hsz
    split at hsz <;> simp_all <;> omega
  refine ⟨w', hrun, ⟨D.del kl, ?_, ?_, fun x hx => ?_⟩, ht'⟩
  · have := owns_size ho
    rw [hsz'] at this
    rw [hf kl (K.key hkey), getF_isSome]
    exact this
  · rw [hsz', hf kl (K.key hkey), getF_isSome]
  · rw [getF_del]
    unfold delF
    rw [hf x hx]
end

/-! ### at the operation -/
section
variable {P : Program} {w : World} {ops : Array Oper} {rest : List Oper} {o : Oper} {a : Act} {Q : Exit → Act → World → Prop} {k e t : TypeId} {b s : Nat} {f : Lit → Option Value}

theorem wpList_map_look (c : Bool) (hg : o.guard = none) (m x : Operand) (t : TypeId) (hop : o.op = Op.lookup t m x c) (k e : TypeId) (K : Keyed P k) (ht : P.underlying t = some (.map k e)) {z : Value} (hz : (zeroValue e).run P w = .ok z w)
    (hm : a.eval m = .map (some b)) (h : MapF P w k b f s) (key : Value) (kl : Lit) (hx : a.eval x = key) (hkey : keyOf P k key = some kl)
    (hK : wpList P ops Q rest (a.put o.dst (if c then .tuple #[(f kl).getD z, .bool (f kl).isSome] else (f kl).getD z)) w) :
    wpList P ops Q (o :: rest) a w := by
  refine wpList_plain hg fun K' hK' => ?_
  have hrun := h.look K ht hz hkey c
  unfold Oper.wp
  simp [execOp, hop, hm, hx, hrun, Result.andThen]
  exact hK' _ _ hK

theorem wpList_map_len (hg : o.guard = none) (m : Operand) (t : TypeId) (hop : o.op = Op.call { callee := Callee.builtin Builtin.len, args := #[m], argTypes := #[t] })
    (k e : TypeId) (ht : P.underlying t = some (.map k e)) (hm : a.eval m = .map (some b)) (h : MapF P w k b f s)
    (hK : wpList P ops Q rest (a.put o.dst (.int .i64 s)) w) :
    wpList P ops Q (o :: rest) a w := by
  refine wpList_plain hg fun K' hK' => ?_
  unfold Oper.wp
  simp [execOp, hop, resolve, invoke, builtin, hm, h.len ht o.type, Result.andThen]
  exact hK' _ _ hK

theorem wpList_map_store (hg : o.guard = none) (m x v : Operand) (t : TypeId) (hop : o.op = Op.mapUpdate t m x v) (k e : TypeId) (K : Keyed P k) (ht : P.underlying t = some (.map k e))
    (hm : a.eval m = .map (some b)) (h : MapF P w k b f s) (hn : s < maxLen) (key val : Value) (kl : Lit) (hx : a.eval x = key) (hv : a.eval v = val) (hkey : keyOf P k key = some kl)
    (hK : ∀ w', MapF P w' k b (putF f kl val) (if (f kl).isSome then s else s + 1) → w.mapTurned w' b → wpList P ops Q rest (a.put o.dst undef) w') :
    wpList P ops Q (o :: rest) a w := by
  refine wpList_plain hg fun K' hK' => ?_
  obtain ⟨w', hrun, r1, r2⟩ := h.store K ht hn hkey val
  unfold Oper.wp
  simp [execOp, hop, hm, hx, hv, hrun, Result.andThen]
  exact hK' _ _ (hK w' r1 r2)

theorem wpList_map_drop (hg : o.guard = none) (m x : Operand) (t k : TypeId) (hop : o.op = Op.call { callee := Callee.builtin Builtin.delete, args := #[m, x], argTypes := #[t, k] })
    (e : TypeId) (K : Keyed P k) (ht : P.underlying t = some (.map k e)) (hm : a.eval m = .map (some b)) (h : MapF P w k b f s) (key : Value) (kl : Lit) (hx : a.eval x = key) (hkey : keyOf P k key = some kl)
    (hK : ∀ w', MapF P w' k b (delF f kl) (if (f kl).isSome then s - 1 else s) → w.mapTurned w' b → wpList P ops Q rest (a.put o.dst (.tuple #[])) w') :
    wpList P ops Q (o :: rest) a w := by
  refine wpList_plain hg fun K' hK' => ?_
  obtain ⟨w', hrun, r1, r2⟩ := h.drop K ht hkey o.type
  unfold Oper.wp
  simp [execOp, hop, resolve, invoke, builtin, hm, hx, hrun, Result.andThen]
  exact hK' _ _ (hK w' r1 r2)
end
end Go.BK

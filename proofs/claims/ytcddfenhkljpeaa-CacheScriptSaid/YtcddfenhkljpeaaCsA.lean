import Derived.Test.YtcddfenhkljpeaaKitA
import Derived.Maps.Own
import Derived.Maps.OwnSet
import Derived.Maps.Views
import Derived.Maps.Keyed
import Derived.Test.YtcddfenhkljpeaaRows
import Derived.Deep.RegionWith
import Derived.BigQuiet
import Derived.Deep.QuietTactic
import Derived.Handy
/- Words for maps in memory: a map as a partial function from keys to values, the values as they stand. -/
namespace Go.BK
open Go.RowKit Go.Maps
set_option linter.unusedVariables false
open Go.WideElems (Fit rd rg pl rd_val elemAt)

abbrev RV : Value → Option (DataW Value × List MemPlace) := fun v => some (.held v, [])
def heldOf : DataW Value → Value
  | .held v => v
  | _ => undef

/-- What a datum has at a key. -/
def getF (D : DataW Value) (k : Lit) : Option Value := if has D k then some (heldOf (D.atKey k .nil)) else none

/-- Block b is a map with s entries that f tells. -/
def MapF (P : Program) (w : World) (k : TypeId) (b : Nat) (f : Lit → Option Value) (s : Nat) : Prop :=
  ∃ D, w.ownsMap P k RV b s D ∧ size D = s ∧ ∀ x, WideAt.IsKeyLit x → f x = getF D x

open Classical in
noncomputable def putF (f : Lit → Option Value) (k : Lit) (v : Value) : Lit → Option Value := fun x => if x = k then some v else f x
open Classical in
noncomputable def delF (f : Lit → Option Value) (k : Lit) : Lit → Option Value := fun x => if x = k then none else f x

section
variable {P : Program} {w : World} {k : TypeId} {b s : Nat} {f : Lit → Option Value}

theorem MapF.made (w : World) (P : Program) (k : TypeId) : MapF P (w.alloc (.map #[] 0)) k w.heap.size (fun _ => none) 0 :=
  ⟨.map [], World.ownsMap_made w P k RV, rfl, fun x _ => by simp [getF, has_eq]⟩
theorem MapF.lt (h : MapF P w k b f s) : b < w.heap.size := by obtain ⟨D, h, _⟩ := h; exact h.lt
theorem MapF.kept {w' : World} {row : Option Nat} (h : MapF P w k b f s) (hg : w.grownBy w' row) (hne : some b ≠ row) : MapF P w' k b f s := by
  obtain ⟨D, h, r⟩ := h; exact ⟨D, h.kept hg hne, r⟩
theorem MapF.alloc (h : MapF P w k b f s) (o : Obj) : MapF P (w.alloc o) k b f s := by obtain ⟨D, h, r⟩ := h; exact ⟨D, h.alloc o, r⟩
theorem MapF.ext {w' : World} (h : MapF P w k b f s) (e : Ext w w') : MapF P w' k b f s := by
  obtain ⟨D, ⟨es, clock, hb, r1⟩, r2⟩ := h
  exact ⟨D, ⟨es, clock, (e.block b (Array.getElem?_eq_some_iff.1 hb).1).trans hb, r1⟩, r2⟩
theorem MapF.setCell (h : MapF P w k b f s) {a : Addr} (ha : b ≠ a.block) (u : Value) : MapF P (w.setCell a u) k b f s := by
  obtain ⟨D, h, r⟩ := h; exact ⟨D, h.setCell ha u, r⟩
theorem MapF.congr (h : MapF P w k b f s) {g : Lit → Option Value} (e : ∀ x, g x = f x) : MapF P w k b g s := by
  rw [show g = f from funext e]; exact h

theorem getF_none {D : DataW Value} {x : Lit} (h : has D x = false) : getF D x = none := by simp [getF, h]
theorem getF_some {D : DataW Value} {x : Lit} (h : has D x = true) : getF D x = some (heldOf (D.atKey x .nil)) := by simp [getF, h]

theorem MapF.look {t e : TypeId} (h : MapF P w k b f s) (K : Keyed P k) (ht : P.underlying t = some (.map k e)) {z : Value} (hz : (zeroValue e).run P w = .ok z w)
    {key : Value} {kl : Lit} (hkey : keyOf P k key = some kl) (c : Bool) : (Instr.lookup t (.map (some b)) key c).run P w = .ok (if c then .tuple #[(f kl).getD z, .bool (f kl).isSome] else (f kl).getD z) w := by
  obtain ⟨D, ⟨es, clock, hb, F, hs, rfl⟩, hD, hf⟩ := h
  rw [hf kl (K.key hkey)]
  rcases Maps.fit_look c K ht hz hb F hkey with ⟨hrun, _, hat⟩ | ⟨e0, y, _, _, hrun, hRv, hat, _⟩
  · rw [getF_none (Maps.has_false_of_atKey hat), hrun]; simp
  · rw [getF_some (Maps.has_true_of_atKey hat), hrun, hat]
    simp only [RV, Option.some.injEq] at hRv
    subst hRv
    simp [heldOf]

theorem MapF.len {t e : TypeId} (h : MapF P w k b f s) (ht : P.underlying t = some (.map k e)) (ty : TypeId) : (Builtin.len_ #[t] ty #[.map (some b)]).run P w = .ok (.int .i64 s) w := by
  obtain ⟨D, h, hD, _⟩ := h
  rw [h.len ht ty, hD]

theorem getF_put {D : DataW Value} {kl : Lit} (hD : IsMap D) (hk : WideAt.IsKeyLit kl) (v : Value) (x : Lit) : getF (D.put kl (.held v)) x = putF (getF D) kl v x := by
  unfold putF
  by_cases h : x = kl
  · subst h
    rw [if_pos rfl, getF_some (has_put_same hD hk _), atKey_put_same hD hk]; rfl
  · rw [if_neg h]
    unfold getF
    rw [has_put_other h, atKey_put_other h]
theorem getF_del {D : DataW Value} {kl : Lit} (x : Lit) : getF (D.del kl) x = delF (getF D) kl x := by
  unfold delF
  by_cases h : x = kl
  · subst h
    rw [if_pos rfl, getF_none has_del_same]
  · rw [if_neg h]
    unfold getF
    rw [has_del_other h, atKey_del_other h]
theorem getF_isSome (D : DataW Value) (x : Lit) : (getF D x).isSome = has D x := by
  unfold getF; cases has D x <;> simp

/-- The bound may always be the number of the entries. -/
theorem owns_size {w : World} {D : DataW Value} {n : Nat} (h : w.ownsMap P k RV b n D) : w.ownsMap P k RV b (size D) D := by
  obtain ⟨es, clock, hb, F, hs, rfl⟩ := h
  exact ⟨es, clock, hb, F, by simp [Maps.size, length_sorted], rfl⟩

theorem MapF.store {t e : TypeId} (h : MapF P w k b f s) (K : Keyed P k) (ht : P.underlying t = some (.map k e)) (hn : s < maxLen) {key : Value} {kl : Lit} (hkey : keyOf P k key = some kl) (val : Value) :
    ∃ w', (Instr.mapUpdate t (.map (some b)) key val).run P w = .ok () w' ∧ MapF P w' k b (putF f kl val) (if (f kl).isSome then s else s + 1) ∧ w.mapTurned w' b := by
  obtain ⟨D, h, hD, hf⟩ := h
  obtain ⟨w', hrun, ho, ht'⟩ := h.store K ht hn hkey (d := .held val) (ps := []) rfl
  have hsz := size_put (k := kl) (h.tidy K) (.held val)
  refine ⟨w', hrun, ⟨D.put kl (.held val), ?_, ?_, fun x hx => ?_⟩, ht'⟩
  · have := owns_size ho
    rw [hsz, hD] at this
    rw [hf kl (K.key hkey), getF_isSome]
    exact this
  · rw [hsz, hD, hf kl (K.key hkey), getF_isSome]
  · rw [getF_put h.isMap (K.key hkey)]
    unfold putF
    rw [hf x hx]

theorem MapF.drop {t e : TypeId} (h : MapF P w k b f s) (K : Keyed P k) (ht : P.underlying t = some (.map k e)) {key : Value} {kl : Lit} (hkey : keyOf P k key = some kl) (ty : TypeId) :
    ∃ w', (Builtin.delete_ #[t, k] ty #[.map (some b), key]).run P w = .ok (.tuple #[]) w' ∧ MapF P w' k b (delF f kl) (if (f kl).isSome then s - 1 else s) ∧ w.mapTurned w' b := by
  obtain ⟨D, h, hD, hf⟩ := h
  obtain ⟨w', hrun, ho, ht'⟩ := h.drop K ht hkey ty
  have hsz := size_del (k := kl) (h.tidy K)
  have hsz' : size (D.del kl) = if has D kl then s - 1 else s := by
    rw [hD] at hsz
    split at hsz <;> simp_all <;> omega
  refine ⟨w', hrun, ⟨D.del kl, ?_, ?_, fun x hx => ?_⟩, ht'⟩
  · have := owns_size ho
    rw [hsz'] at this
    rw [hf kl (K.key hkey), getF_isSome]
    exact this
  · rw [hsz', hf kl (K.key hkey), getF_isSome]
  · rw [getF_del]
    unfold delF
    rw [hf x hx]
end

/-! ### at the operation -/
section
variable {P : Program} {w : World} {ops : Array Oper} {rest : List Oper} {o : Oper} {a : Act} {Q : Exit → Act → World → Prop} {k e t : TypeId} {b s : Nat} {f : Lit → Option Value}

theorem wpList_map_look (c : Bool) (hg : o.guard = none) (m x : Operand) (t : TypeId) (hop : o.op = Op.lookup t m x c) (k e : TypeId) (K : Keyed P k) (ht : P.underlying t = some (.map k e)) {z : Value} (hz : (zeroValue e).run P w = .ok z w)
    (hm : a.eval m = .map (some b)) (h : MapF P w k b f s) (key : Value) (kl : Lit) (hx : a.eval x = key) (hkey : keyOf P k key = some kl)
    (hK : wpList P ops Q rest (a.put o.dst (if c then .tuple #[(f kl).getD z, .bool (f kl).isSome] else (f kl).getD z)) w) :
    wpList P ops Q (o :: rest) a w := by
  refine wpList_plain hg fun K' hK' => ?_
  have hrun := h.look K ht hz hkey c
  unfold Oper.wp
  simp [execOp, hop, hm, hx, hrun, Result.andThen]
  exact hK' _ _ hK

theorem wpList_map_len (hg : o.guard = none) (m : Operand) (t : TypeId) (hop : o.op = Op.call { callee := Callee.builtin Builtin.len, args := #[m], argTypes := #[t] })
    (k e : TypeId) (ht : P.underlying t = some (.map k e)) (hm : a.eval m = .map (some b)) (h : MapF P w k b f s)
    (hK : wpList P ops Q rest (a.put o.dst (.int .i64 s)) w) :
    wpList P ops Q (o :: rest) a w := by
  refine wpList_plain hg fun K' hK' => ?_
  unfold Oper.wp
  simp [execOp, hop, resolve, invoke, builtin, hm, h.len ht o.type, Result.andThen]
  exact hK' _ _ hK

theorem wpList_map_store (hg : o.guard = none) (m x v : Operand) (t : TypeId) (hop : o.op = Op.mapUpdate t m x v) (k e : TypeId) (K : Keyed P k) (ht : P.underlying t = some (.map k e))
    (hm : a.eval m = .map (some b)) (h : MapF P w k b f s) (hn : s < maxLen) (key val : Value) (kl : Lit) (hx : a.eval x = key) (hv : a.eval v = val) (hkey : keyOf P k key = some kl)
    (hK : ∀ w', MapF P w' k b (putF f kl val) (if (f kl).isSome then s else s + 1) → w.mapTurned w' b → wpList P ops Q rest (a.put o.dst undef) w') :
    wpList P ops Q (o :: rest) a w := by
  refine wpList_plain hg fun K' hK' => ?_
  obtain ⟨w', hrun, r1, r2⟩ := h.store K ht hn hkey val
  unfold Oper.wp
  simp [execOp, hop, hm, hx, hv, hrun, Result.andThen]
  exact hK' _ _ (hK w' r1 r2)

theorem wpList_map_drop (hg : o.guard = none) (m x : Operand) (t k : TypeId) (hop : o.op = Op.call { callee := Callee.builtin Builtin.delete, args := #[m, x], argTypes := #[t, k] })
    (e : TypeId) (K : Keyed P k) (ht : P.underlying t = some (.map k e)) (hm : a.eval m = .map (some b)) (h : MapF P w k b f s) (key : Value) (kl : Lit) (hx : a.eval x = key) (hkey : keyOf P k key = some kl)
    (hK : ∀ w', MapF P w' k b (delF f kl) (if (f kl).isSome then s - 1 else s) → w.mapTurned w' b → wpList P ops Q rest (a.put o.dst (.tuple #[])) w') :
    wpList P ops Q (o :: rest) a w := by
  refine wpList_plain hg fun K' hK' => ?_
  obtain ⟨w', hrun, r1, r2⟩ := h.drop K ht hkey o.type
  unfold Oper.wp
  simp [execOp, hop, resolve, invoke, builtin, hm, hx, hrun, Result.andThen]
  exact hK' _ _ (hK w' r1 r2)
end
end Go.BK
/- A word on worlds: nothing has turned but blocks of U and new ones. -/
namespace Go.BK
open Go.RowKit

structure Shy (U : Nat → Prop) (w w' : World) : Prop where
  os : w'.os = w.os
  tape : w'.tape = w.tape
  output : w'.output = w.output
  size : w.heap.size ≤ w'.heap.size
  block : ∀ k, k < w.heap.size → ¬ U k → w'.heap[k]? = w.heap[k]?

section
variable {U V : Nat → Prop} {w w1 w2 : World}
theorem Shy.refl (w : World) : Shy U w w := ⟨rfl, rfl, rfl, Nat.le_refl _, fun _ _ _ => rfl⟩
theorem Shy.mono (h : Shy U w w1) (hU : ∀ k, k < w.heap.size → U k → V k) : Shy V w w1 := ⟨h.os, h.tape, h.output, h.size, fun k hk hn => h.block k hk fun hu => hn (hU k hk hu)⟩
theorem Shy.trans (h : Shy U w w1) (k : Shy V w1 w2) (hV : ∀ k, k < w.heap.size → V k → U k) : Shy U w w2 :=
  ⟨k.os.trans h.os, k.tape.trans h.tape, k.output.trans h.output, Nat.le_trans h.size k.size,
   fun i hi hn => (k.block i (Nat.lt_of_lt_of_le hi h.size) fun hv => hn (hV i hi hv)).trans (h.block i hi hn)⟩
theorem Shy.ext (h : Shy U w w1) (k : Ext w1 w2) : Shy U w w2 :=
  ⟨k.os.trans h.os, k.tape.trans h.tape, k.output.trans h.output, Nat.le_trans h.size k.size,
   fun i hi hn => (k.block i (Nat.lt_of_lt_of_le hi h.size)).trans (h.block i hi hn)⟩
theorem Shy.of_ext (k : Ext w w1) : Shy U w w1 := (Shy.refl w).ext k
theorem Shy.grown {row : Option Nat} (h : Shy U w w1) (k : w1.grownBy w2 row) (hr : ∀ g, row = some g → g < w.heap.size → U g) : Shy U w w2 :=
  ⟨k.os.trans h.os, k.tape.trans h.tape, k.output.trans h.output, Nat.le_trans h.size k.size,
   fun i hi hn => (k.block i (Nat.lt_of_lt_of_le hi h.size) fun e => hn (hr i e.symm hi)).trans (h.block i hi hn)⟩
theorem Shy.rdG {size n c : Nat} {A : Option Addr} {xs : List Value} (hs : Shy U w w1) (h : RdG w size A n c xs) (hne : ∀ k, blk A = some k → ¬ U k) : RdG w1 size A n c xs := by
  refine ⟨h.1, h.2.1, h.2.2.1, fun h0 => ?_⟩
  obtain ⟨b, o, rfl, hlt, hc⟩ := h.2.2.2 h0
  exact ⟨b, o, rfl, Nat.lt_of_lt_of_le hlt hs.size, fun i u hi => (World.cell?_of_block (hs.block b hlt (hne b rfl))).trans (hc i u hi)⟩
theorem Shy.rd {c : Nat} {A : Option Addr} {l : List UInt8} (hs : Shy U w w1) (h : Rd w A c l) (hne : ∀ k, blk A = some k → ¬ U k) : Rd w1 A c l := hs.rdG h hne
theorem Shy.ownG {ok : Value → Prop} {base size n c : Nat} {e : TypeId} {A : Option Addr} {xs : List Value} (hs : Shy U w w1) (h : OwnG ok w base e size A n c xs) (hne : ∀ k, blk A = some k → ¬ U k) : OwnG ok w1 base e size A n c xs := by
  rcases h with h | ⟨g, full, rfl, hb, hgg, r⟩
  · exact .inl h
  · exact .inr ⟨g, full, rfl, hb, (hs.block g (Array.getElem?_eq_some_iff.1 hgg).1 (hne g rfl)).trans hgg, r⟩
theorem shy_of_grown {w w' : World} {row : Option Nat} (h : w.grownBy w' row) : Shy (fun k => row = some k) w w' := (Shy.refl w).grown h fun _ hg _ => hg
/-- What was there below B, where U has nothing. -/
theorem Shy.below {B : Nat} (hs : Shy U w w1) (hB : B ≤ w.heap.size) (hU : ∀ k, k < B → ¬ U k) : Below B w w1 := ⟨hs.os, hs.tape, hs.output, hs.size, fun k hk => hs.block k (Nat.lt_of_lt_of_le hk hB) (hU k hk)⟩
end
end Go.BK
/- A part of the contracts of the small functions that the statements share. -/
namespace Go.Proofs.Ytcddfenhkljpeaa
open Go.BK Go.RowKit
set_option linter.unusedVariables false

theorem info_u8 : (Try.prog.info? 5).map (fun i => (i.zero, i.size, i.bytes)) = some (some (.int .u8 0), 1, 1) := by kernel_rfl
theorem bcell {W w1 : World} (hb : Below W.heap.size W w1) : (∀ b o, b < W.heap.size → w1.cell? ⟨b, o, none⟩ = W.cell? ⟨b, o, none⟩) ∧ (∀ b o, b < W.heap.size → w1.frozen? ⟨b, o, none⟩ = W.frozen? ⟨b, o, none⟩) :=
  ⟨fun b o h => hb.cell (p := ⟨b, o, none⟩) h, fun b o h => hb.frozen (p := ⟨b, o, none⟩) h⟩
theorem ext_drewN (w : World) (n : Nat) : Ext w (w.drewN n) := ⟨rfl, rfl, rfl, Nat.le_refl _, fun _ _ => rfl⟩
theorem ext_drew (w : World) : Ext w w.drew := (Below.refl _ _).drew
theorem quiet_sym {P : Program} {f : FuncId} {args : Array Value} {w : World} {n : Nat} {v : Value}
    (h : Calls P f args (w.drewN n) fun e w' => e = .returned v ∧ w.drewN n = w') : Calls P f args (w.drewN n) fun e w'' => e = .returned v ∧ ∃ m, w'' = w.drewN m :=
  h.mono fun _ _ ⟨he, hm⟩ => ⟨he, n, hm.symm⟩
theorem ret_bool {a b : Bool} (h : a = b) : Ending.returned (.bool a) = .returned (.bool b) := by rw [h]
theorem ret_int {k : IntKind} {a b : Int} (h : a = b) : Ending.returned (.int k a) = .returned (.int k b) := by rw [h]
/-- Block-wise bookkeeping for the cut 'b[:cap(b)]'. -/
theorem cap_cut (A : Option Addr) (c : Nat) : (if c = 0 then A else A.map (·.add 0)) = A := by split <;> simp [mapAdd_zero]
theorem ne_blk {A B : Option Addr} {base : Nat} {w w' : World} {e : TypeId} {ca cb : Nat} {a b : List UInt8} {base' : Nat} (ha : Own w base e A ca a) (hb : Own w' base' e B cb b) (hle : w.heap.size ≤ base') : ∀ g, blk A = some g → some g ≠ blk B := by
  intro g hg hB
  have h1 := ha.lt g hg
  have h2 := hb.lt g hB.symm
  omega
theorem ne_blk' {A B : Option Addr} {base : Nat} {w w' : World} {e : TypeId} {ca cb : Nat} {a b : List UInt8} {base' : Nat} (ha : Own w base e A ca a) (hb : Own w' base' e B cb b) (hle : w.heap.size ≤ base') : ∀ g, blk B = some g → some g ≠ blk A := by
  intro g hg hB
  have h1 := ha.lt g hB.symm
  have h2 := hb.lt g hg
  omega
/-- What was there when the other one was told is no part of it. -/
theorem ne_over {A B : Option Addr} {base base' : Nat} {w w' : World} {e : TypeId} {ca cb : Nat} {a b : List UInt8} (ha : Own w base e A ca a) (hb : Own w' base' e B cb b) (hle : w.heap.size ≤ base' := by exact Nat.le_refl _) : ∀ g, blk A = some g → some g ≠ blk B := ne_blk ha hb hle
theorem rd_over {A B : Option Addr} {base' : Nat} {w w' : World} {e : TypeId} {ca cb : Nat} {a b : List UInt8} (ha : Rd w A ca a) (hb : Own w' base' e B cb b) (hle : w.heap.size ≤ base' := by exact Nat.le_refl _) : 0 < a.length → blk A ≠ blk B := by
  intro h0 hB
  obtain ⟨g, hg, h1⟩ := ha.lt h0
  have h2 := hb.lt g (by rw [← hB, hg])
  omega

end Go.Proofs.Ytcddfenhkljpeaa

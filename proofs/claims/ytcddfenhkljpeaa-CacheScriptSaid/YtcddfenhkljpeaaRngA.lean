import Derived.Test.YtcddfenhkljpeaaKitA
import Derived.RangeFuncLeaves
import Derived.RangeFuncBound
import Derived.RangeFuncCalls
import Derived.Shelf.Abstract
import Derived.OwnWalkIn
import Derived.TacticsInMore
import Derived.LoopNIn
import Derived.LoopIn
import Derived.RangeFuncNested
/- A range over a function, the loop's record told: for an iterator that keeps its place in a cell of its own. -/
namespace Go.BK
open Go.RowKit

/-- The record of a loop that function fn began, its deferred calls at block D. -/
def recL (fn : FuncId) (tmps : Array Value) (ps : Array Tmp) (assign body : Code) (D : Nat) (st : LoopState) (pe : Option Code) : Loop :=
  { state := st, pending := pe, fn, tmps, params := ps, assign, body, defers := D }

/-- The world in which an outermost loop's iterator begins. -/
def begunL (w : World) (rec : LoopState → Option Code → Loop) : World := (w.alloc (.deferred (some []))).alloc (.loop (rec .ready none))

section
variable {F : Fence} {n : Nat} {P : Program}

theorem range_told {g : Operand} {ps : Array Tmp} {assign body : Code} {Q : Exit → Act → World → Prop} {a : Act} {w : World} (hro : F.round = none) (h1 : 1 ≤ n)
    {gf : Nat} {lb : Array Value} (hg : a.eval g = .func (.func gf) #[] lb) (hFg : F.fn gf) (eg : ∀ args w, (callFunc gf args).run P w = .ok (.enter gf args) w)
    (h : ∀ fn rec, F.fn fn → Hid (rec = recL fn a.tmps ps assign body w.heap.size) → CallsIn F (n - 1) P gf (#[.func (.yield (w.heap.size + 1)) #[] #[]] ++ lb) (begunL w rec)
      (rangePost F n P (w.heap.size + 1) Q { a with defers := { target := .collected w.heap.size, args := #[] } :: a.defers })) :
    (Code.rangeFunc g ps assign body).wpIn F n P Q a w := by
  refine wpIn_rangeFunc fun fn hfn => ?_
  rw [hro]
  have he : (Instr.enterLoop fn a.tmps ps assign body none).run P w = .ok (w.heap.size + 1, [{ target := .collected w.heap.size, args := #[] }]) (begunL w (recL fn a.tmps ps assign body w.heap.size)) := run_enterLoop_outer _ _ _ _ _
  have hc := h fn _ hfn (hid rfl)
  obtain ⟨W, hW⟩ : ∃ W, W = begunL w (recL fn a.tmps ps assign body w.heap.size) := ⟨_, rfl⟩
  rw [← hW] at he hc
  have hres : (resolve a.eval (rangeCall g (w.heap.size + 1)) 0).run P W = .ok { target := .fn (.func gf) lb, args := #[.func (.yield (w.heap.size + 1)) #[] #[]] } W := by
    simp only [resolve, hg]
    simp [go_sem]
  have hinv : (invoke (.fn (.func gf) lb) #[.func (.yield (w.heap.size + 1)) #[] #[]]).run P W = .ok (.enter gf (#[.func (.yield (w.heap.size + 1)) #[] #[]] ++ lb)) W := by
    simp [invoke, go_sem, eg]
  exact ⟨_, _, _, _, W, gf, _, W, he, hres, (fun f' hf' => by simp [Target.leads] at hf'; subst hf'; exact hFg), hinv, fun _ => h1, hc⟩

theorem begunL_rec (w : World) (rec : LoopState → Option Code → Loop) : (begunL w rec).heap[w.heap.size + 1]? = some (.loop (rec .ready none)) := by
  have := World.alloc_heap_new (w.alloc (.deferred (some []))) (.loop (rec .ready none))
  rwa [World.size_alloc] at this
theorem begunL_def (w : World) (rec : LoopState → Option Code → Loop) : (begunL w rec).heap[w.heap.size]? = some (.deferred (some [])) :=
  (Below.heap_alloc _ _ _ (by simp)).trans (World.alloc_heap_new w _)
theorem begunL_ext (w : World) (rec : LoopState → Option Code → Loop) : Ext w (begunL w rec) := ext_trans (ext_alloc _ _) (ext_alloc _ _)
theorem begunL_size (w : World) (rec : LoopState → Option Code → Loop) : (begunL w rec).heap.size = w.heap.size + 2 := by simp [begunL]

/-- Block r becomes o: what lies elsewhere is as it was. -/
theorem put_grown (w : World) (r : Nat) (o : Obj) : w.grownBy (w.putObj r o) (some r) := grownBy_putObj' w r o
theorem heap_kept {w w' : World} {row : Option Nat} {k : Nat} {o : Obj} (h : w.heap[k]? = some o) (hg : w.grownBy w' row) (hne : some k ≠ row) : w'.heap[k]? = some o :=
  (hg.block k (Array.getElem?_eq_some_iff.1 h).1 hne).trans h

/-- 'append(s, v)' inside a fence, s the call's own, elements of one cell. -/
theorem wpListIn_append_1 {w : World} {ops : Array Oper} {rest : List Oper} {o : Oper} {a : Act} {Q : Exit → Act → World → Prop} {ok : Value → Prop} (hgd : o.guard = none) (s x : Operand) (t : TypeId)
    (ho : o.op = .call { callee := .builtin .append, args := #[s, x], argTypes := #[t, t] })
    (base : Nat) (e : TypeId) (i : TypeInfo) (z : Value) (bytes : Nat) (ht : P.underlying t = some (.slice e)) (hi : P.info? e = some i) (hz : i.zero = some z)
    (hsize : i.size = 1) (hby : i.bytes = bytes) (hzs : z.cells = #[z]) (hzok : ok z) (hok1 : ∀ u, ok u → u.oneCell' = true)
    {A : Option Addr} {m c : Nat} {xs : List Value} (hs : a.eval s = .slice A m c) (hown : OwnG ok w base e 1 A m c xs)
    (v : Value) (hx : a.eval x = .slice (some ⟨w.heap.size, 0, none⟩) 1 1) (hv : ok v)
    (hbytes : (m + 1) * bytes ≤ 140737488355328) (h63 : m + 1 ≤ maxLen) (hbase : base ≤ w.heap.size)
    (h : ∀ A' c' w', OwnG ok w' base e 1 A' (m + 1) c' (xs ++ [v]) → w.grownBy w' (blk A) → Below base w w' → (∀ b, blk A' = some b → blk A = some b ∨ w.heap.size ≤ b) → wpListIn F n P ops Q rest (a.put o.dst (.slice A' (m + 1) c')) w') : wpListIn F n P ops Q (o :: rest) a (w.alloc (.cells #[v] e)) := by
  refine wpListIn_plain hgd fun K hK' => ?_
  obtain ⟨A', c', w', hrun, h1, h2, h3⟩ := run_append_g (P := P) base t o.type e i z 1 bytes ht hi hz hsize hby (by rw [hzs]; rfl) (by decide) (by rw [hzs]; simpa using hzok) hok1 (hown.ext (ext_alloc _ _)) (RdG.single w v e) (by simpa using hv) hbytes h63 (by simp; omega)
  have hg : w.grownBy w' (blk A) := grown_trans (grown_of_ext (ext_alloc _ _) _) h2
  unfold Oper.wpIn
  refine ⟨?_, ?_⟩
  · simp [Oper.about, ho, resolve, Target.leads, Sem.run_pure]
  · rw [Oper.semAt_plain F _ _ (by rw [ho]; intro c hc'; cases hc')]
    simp [execOp, ho, resolve, invoke, builtin, hs, hx, hrun, Result.andThen]
    refine hK' _ _ (h A' c' w' h1 hg (Below.grown (Below.refl _ _) hg hbase fun g hb => (hown.lt g hb).1) fun b hb => ?_)
    rcases h3 with rfl | rfl
    · exact .inl hb
    · simp at hb; exact .inr (by omega)
end
end Go.BK

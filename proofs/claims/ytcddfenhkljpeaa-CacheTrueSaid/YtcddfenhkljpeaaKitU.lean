/- A word on worlds: nothing has turned but blocks of U and new ones. -/
import Derived.Test.YtcddfenhkljpeaaKitM
namespace Go.BK
open Go.RowKit

structure Shy (U : Nat → Prop) (w w' : World) : Prop where
  os : w'.os = w.os
  tape : w'.tape = w.tape
  output : w'.output = w.output
  size : w.heap.size ≤ w'.heap.size
  block : ∀ k, k < w.heap.size → ¬ U k → w'.heap[k]? = w.heap[k]?

section
variable {U V : Nat → Prop} {w w1 w2 : World}
theorem Shy.refl (w : World) : Shy U w w := ⟨rfl, rfl, rfl, Nat.le_refl _, fun _ _ _ => rfl⟩
theorem Shy.mono (h : Shy U w w1) (hU : ∀ k, k < w.heap.size → U k → V k) : Shy V w w1 := ⟨h.os, h.tape, h.output, h.size, fun k hk hn => h.block k hk fun hu => hn (hU k hk hu)⟩
theorem Shy.trans (h : Shy U w w1) (k : Shy V w1 w2) (hV : ∀ k, k < w.heap.size → V k → U k) : Shy U w w2 :=
  ⟨k.os.trans h.os, k.tape.trans h.tape, k.output.trans h.output, Nat.le_trans h.size k.size,
   fun i hi hn => (k.block i (Nat.lt_of_lt_of_le hi h.size) fun hv => hn (hV i hi hv)).trans (h.block i hi hn)⟩
theorem Shy.ext (h : Shy U w w1) (k : Ext w1 w2) : Shy U w w2 :=
  ⟨k.os.trans h.os, k.tape.trans h.tape, k.output.trans h.output, Nat.le_trans h.size k.size,
   fun i hi hn => (k.block i (Nat.lt_of_lt_of_le hi h.size)).trans (h.block i hi hn)⟩
theorem Shy.of_ext (k : Ext w w1) : Shy U w w1 := (Shy.refl w).ext k
theorem Shy.grown {row : Option Nat} (h : Shy U w w1) (k : w1.grownBy w2 row) (hr : ∀ g, row = some g → g < w.heap.size → U g) : Shy U w w2 :=
  ⟨k.os.trans h.os, k.tape.trans h.tape, k.output.trans h.output, Nat.le_trans h.size k.size,
   fun i hi hn => (k.block i (Nat.lt_of_lt_of_le hi h.size) fun e => hn (hr i e.symm hi)).trans (h.block i hi hn)⟩
theorem Shy.rdG {size n c : Nat} {A : Option Addr} {xs : List Value} (hs : Shy U w w1) (h : RdG w size A n c xs) (hne : ∀ k, blk A = some k → ¬ U k) : RdG w1 size A n c xs := by
  refine ⟨h.1, h.2.1, h.2.2.1, fun h0 => ?_⟩
  obtain ⟨b, o, rfl, hlt, hc⟩ := h.2.2.2 h0
  exact ⟨b, o, rfl, Nat.lt_of_lt_of_le hlt hs.size, fun i u hi => (World.cell?_of_block (hs.block b hlt (hne b rfl))).trans (hc i u hi)⟩
theorem Shy.rd {c : Nat} {A : Option Addr} {l : List UInt8} (hs : Shy U w w1) (h : Rd w A c l) (hne : ∀ k, blk A = some k → ¬ U k) : Rd w1 A c l := hs.rdG h hne
theorem Shy.ownG {ok : Value → Prop} {base size n c : Nat} {e : TypeId} {A : Option Addr} {xs : List Value} (hs : Shy U w w1) (h : OwnG ok w base e size A n c xs) (hne : ∀ k, blk A = some k → ¬ U k) : OwnG ok w1 base e size A n c xs := by
  rcases h with h | ⟨g, full, rfl, hb, hgg, r⟩
  · exact .inl h
  · exact .inr ⟨g, full, rfl, hb, (hs.block g (Array.getElem?_eq_some_iff.1 hgg).1 (hne g rfl)).trans hgg, r⟩
theorem shy_of_grown {w w' : World} {row : Option Nat} (h : w.grownBy w' row) : Shy (fun k => row = some k) w w' := (Shy.refl w).grown h fun _ hg _ => hg
/-- What was there below B, where U has nothing. -/
theorem Shy.below {B : Nat} (hs : Shy U w w1) (hB : B ≤ w.heap.size) (hU : ∀ k, k < B → ¬ U k) : Below B w w1 := ⟨hs.os, hs.tape, hs.output, hs.size, fun k hk => hs.block k (Nat.lt_of_lt_of_le hk hB) (hU k hk)⟩
end
end Go.BK

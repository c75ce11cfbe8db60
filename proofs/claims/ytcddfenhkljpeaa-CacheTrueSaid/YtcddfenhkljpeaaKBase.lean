/- A part of the contracts of the small functions that the statements share. -/
import Derived.Test.YtcddfenhkljpeaaRows
import Derived.Test.YtcddfenhkljpeaaKitA
import Derived.Deep.RegionWith
import Derived.BigQuiet
import Derived.Deep.QuietTactic
import Derived.Handy
namespace Go.Proofs.Ytcddfenhkljpeaa
open Go.BK Go.RowKit
set_option linter.unusedVariables false

theorem info_u8 : (Try.prog.info? 5).map (fun i => (i.zero, i.size, i.bytes)) = some (some (.int .u8 0), 1, 1) := by kernel_rfl
theorem bcell {W w1 : World} (hb : Below W.heap.size W w1) : (∀ b o, b < W.heap.size → w1.cell? ⟨b, o, none⟩ = W.cell? ⟨b, o, none⟩) ∧ (∀ b o, b < W.heap.size → w1.frozen? ⟨b, o, none⟩ = W.frozen? ⟨b, o, none⟩) :=
  ⟨fun b o h => hb.cell (p := ⟨b, o, none⟩) h, fun b o h => hb.frozen (p := ⟨b, o, none⟩) h⟩
theorem ext_drewN (w : World) (n : Nat) : Ext w (w.drewN n) := ⟨rfl, rfl, rfl, Nat.le_refl _, fun _ _ => rfl⟩
theorem ext_drew (w : World) : Ext w w.drew := (Below.refl _ _).drew
theorem quiet_sym {P : Program} {f : FuncId} {args : Array Value} {w : World} {n : Nat} {v : Value}
    (h : Calls P f args (w.drewN n) fun e w' => e = .returned v ∧ w.drewN n = w') : Calls P f args (w.drewN n) fun e w'' => e = .returned v ∧ ∃ m, w'' = w.drewN m :=
  h.mono fun _ _ ⟨he, hm⟩ => ⟨he, n, hm.symm⟩
theorem ret_bool {a b : Bool} (h : a = b) : Ending.returned (.bool a) = .returned (.bool b) := by rw [h]
theorem ret_int {k : IntKind} {a b : Int} (h : a = b) : Ending.returned (.int k a) = .returned (.int k b) := by rw [h]
/-- Block-wise bookkeeping for the cut 'b[:cap(b)]'. -/
theorem cap_cut (A : Option Addr) (c : Nat) : (if c = 0 then A else A.map (·.add 0)) = A := by split <;> simp [mapAdd_zero]
theorem ne_blk {A B : Option Addr} {base : Nat} {w w' : World} {e : TypeId} {ca cb : Nat} {a b : List UInt8} {base' : Nat} (ha : Own w base e A ca a) (hb : Own w' base' e B cb b) (hle : w.heap.size ≤ base') : ∀ g, blk A = some g → some g ≠ blk B := by
  intro g hg hB
  have h1 := ha.lt g hg
  have h2 := hb.lt g hB.symm
  omega
theorem ne_blk' {A B : Option Addr} {base : Nat} {w w' : World} {e : TypeId} {ca cb : Nat} {a b : List UInt8} {base' : Nat} (ha : Own w base e A ca a) (hb : Own w' base' e B cb b) (hle : w.heap.size ≤ base') : ∀ g, blk B = some g → some g ≠ blk A := by
  intro g hg hB
  have h1 := ha.lt g hB.symm
  have h2 := hb.lt g hg
  omega
/-- What was there when the other one was told is no part of it. -/
theorem ne_over {A B : Option Addr} {base base' : Nat} {w w' : World} {e : TypeId} {ca cb : Nat} {a b : List UInt8} (ha : Own w base e A ca a) (hb : Own w' base' e B cb b) (hle : w.heap.size ≤ base' := by exact Nat.le_refl _) : ∀ g, blk A = some g → some g ≠ blk B := ne_blk ha hb hle
theorem rd_over {A B : Option Addr} {base' : Nat} {w w' : World} {e : TypeId} {ca cb : Nat} {a b : List UInt8} (ha : Rd w A ca a) (hb : Own w' base' e B cb b) (hle : w.heap.size ≤ base' := by exact Nat.le_refl _) : 0 < a.length → blk A ≠ blk B := by
  intro h0 hB
  obtain ⟨g, hg, h1⟩ := ha.lt h0
  have h2 := hb.lt g (by rw [← hB, hg])
  omega

end Go.Proofs.Ytcddfenhkljpeaa

import Derived.Test.YtcddfenhkljpeaaRows
import Derived.Test.YtcddfenhkljpeaaKitA
import Derived.ProofKit
import Derived.OpenShut
import Derived.ShutString
import Derived.ChangeOld
import Derived.Below
/- What the rows' frames share. -/
namespace Go.Proofs.Ytcddfenhkljpeaa
open Go.ChangeShapes Go.WideShapes Go.ChangeAt Go.RowKit Go.BK

theorem ownKnob_none : ownKnob Try.prog.godebug = none := by kernel_rfl
theorem laidOut : laidOutB Try.prog = true := by kernel_rfl
theorem wf_i64_bounds {a : Int} (h : (Lit.int .i64 a).wf = true) : -9223372036854775808 ≤ a ∧ a ≤ 9223372036854775807 := by
  simp [Lit.wf, IntKind.min, IntKind.max, IntKind.bits, IntKind.signed] at h; omega
theorem wf_u8_bounds {a : Int} (h : (Lit.int .u8 a).wf = true) : 0 ≤ a ∧ a ≤ 255 := by
  simp [Lit.wf, IntKind.min, IntKind.max, IntKind.bits, IntKind.signed] at h; omega

theorem spot_of {w : World} {x : Addr} {v : Value} (h : w.cell? x = some v) : x.spot = none := World.cell?_spot h

theorem rdg_of_cells {k : IntKind} {w : World} {x : Addr} {len cap : Nat} {zs : List Int} (hl : len ≤ cap) (hm : cap ≤ maxLen) (hz : zs.length = cap)
    (hcell : ∀ i, i < zs.length → w.cell? (x.add i) = some (.int k (zs.getD i 0))) : RdG w 1 (some x) len cap ((zs.take len).map (Value.int k)) := by
  refine ⟨by simp; omega, hl, hm, fun h0 => ?_⟩
  obtain ⟨b, o, sp⟩ := x
  have hs : sp = none := by
    have := spot_of (hcell 0 (by omega))
    simpa [Addr.add] using this
  subst hs
  have hb : b < w.heap.size := by
    have := World.block_lt_of_cell? w _ (hcell 0 (by omega))
    simpa [Addr.add] using this
  refine ⟨b, o, rfl, hb, fun j u hj => ?_⟩
  simp only [List.getElem?_map, List.getElem?_take] at hj
  split at hj
  · next hlt =>
    have := hcell j (by omega)
    rw [Addr.add_lit] at this
    rw [this]
    rw [List.getElem?_eq_getElem (by omega)] at hj
    simp at hj
    subst hj
    simp [show j < zs.length by omega]
  · simp at hj

theorem rd_of_ints {w : World} {x : Addr} {len cap : Nat} {zs : List Int} (hl : len ≤ cap) (hm : cap ≤ maxLen) (hz : zs.length = cap)
    (hcell : ∀ i, i < zs.length → w.cell? (x.add i) = some (.int .u8 (zs.getD i 0))) (hwz : ∀ n ∈ zs, (Lit.int .u8 n).wf = true) : ∃ l : List UInt8, l.length = len ∧ Rd w (some x) cap l := by
  have h := rdg_of_cells hl hm hz hcell
  refine ⟨(zs.take len).map fun n => UInt8.ofNat n.toNat, by simp; omega, ?_⟩
  unfold Rd
  rw [List.map_map]
  have e : (zs.take len).map (u8v ∘ fun n => UInt8.ofNat n.toNat) = (zs.take len).map (Value.int .u8) := by
    apply List.map_congr_left
    intro n hn
    have := wf_u8_bounds (hwz n (List.mem_of_mem_take hn))
    simp
    omega
  rw [e]
  simpa [hz, Nat.min_eq_left hl] using h

theorem rdi_of_ints {w : World} {x : Addr} {len cap : Nat} {zs : List Int} (hl : len ≤ cap) (hm : cap ≤ maxLen) (hz : zs.length = cap)
    (hcell : ∀ i, i < zs.length → w.cell? (x.add i) = some (.int .i64 (zs.getD i 0))) (hwz : ∀ n ∈ zs, (Lit.int .i64 n).wf = true) : ∃ l : List Int, l.length = len ∧ RdI w (some x) cap l := by
  have h := rdg_of_cells hl hm hz hcell
  refine ⟨zs.take len, by simp; omega, ?_, fun n hn => wf_i64_bounds (hwz n (List.mem_of_mem_take hn))⟩
  simpa [hz, Nat.min_eq_left hl] using h

end Go.Proofs.Ytcddfenhkljpeaa

/- Blocks that stand while others turn. -/
import Derived.Test.YtholjbnggnfapaaKitU
import Derived.Test.YtholjbnggnfapaaKBase
namespace Go.BK
open Go.RowKit
section
variable {w w' : World} {g h : Nat} {s t : TypeId} {cs ds : Array Value}
theorem blk_ne (hg : Blk w g s cs) (hh : Blk w h t ds) (ne : s ≠ t) : g ≠ h := by
  rintro rfl
  unfold Blk at hg hh
  rw [hg] at hh
  injection hh with hh
  injection hh with _ h2
  exact ne h2
theorem set_shy (b i : Nat) (v : Value) (w : World) : Shy (fun k => k = b) w (w.setCell ⟨b, i, none⟩ v) :=
  ⟨rfl, rfl, rfl, by simp [World.setCell], fun k _ hk => Below.heap_setCell _ _ _ _ (fun e => hk e)⟩
theorem shy_drewN {U : Nat → Prop} (w : World) (n : Nat) : Shy U w (w.drewN n) := ⟨rfl, rfl, rfl, Nat.le_refl _, fun _ _ _ => rfl⟩
theorem Blk.shy {U : Nat → Prop} (hg : Blk w g s cs) (hs : Shy U w w') (hn : ¬ U g) : Blk w' g s cs := (hs.block g hg.lt hn).trans hg
theorem Shy.set {U : Nat → Prop} (hs : Shy U w w') {b : Nat} (hb : b < w.heap.size → U b) (i : Nat) (v : Value) : Shy U w (w'.setCell ⟨b, i, none⟩ v) :=
  hs.trans (set_shy b i v w') fun k hk e => by subst e; exact hb hk
end
end Go.BK

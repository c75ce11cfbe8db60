/- Layer 11: the letters' numbers, as a list of 256 bytes. -/
import Derived.Test.YtgcdpkjohaplcaaBasA
import Derived.Outline
import Derived.Deep.MidRow
import Derived.Laws.Rows
import Derived.Lib.OthersKept
namespace Go.Proofs.Ytgcdpkjohaplcaa
open Go.BK Go.RowKit
set_option linter.unusedVariables false
def tabZ (L : List UInt8) : Array Value := (L.map u8v).toArray
theorem tabZ_size (L : List UInt8) : (tabZ L).size = L.length := by simp [tabZ]
theorem tabZ_get (L : List UInt8) (k : Nat) (hk : k < L.length) : (tabZ L)[k]? = some (.int .u8 (L.getD k 0).toNat) := by simp [tabZ, hk]
theorem blk_setL {w : World} {g : Nat} {t : TypeId} {L : List UInt8} (h : Blk w g t (tabZ L)) (i : Nat) (x : UInt8) : Blk (w.setCell ⟨g, i, none⟩ (.int .u8 x.toNat)) g t (tabZ (L.set i x)) := by
  have := h.set_ i (u8v x)
  simpa [tabZ, List.map_set] using this
def tabA (k : Nat) : List UInt8 := List.replicate k 255 ++ List.replicate (256 - k) 0
theorem tabA_len {k : Nat} (h : k ≤ 256) : (tabA k).length = 256 := by simp [tabA]; omega
theorem tabA_set {k : Nat} (h : k < 256) : (tabA k).set k 255 = tabA (k + 1) := by
  unfold tabA
  rw [List.set_append_right _ _ (by simp), List.length_replicate, Nat.sub_self, show 256 - k = (256 - (k + 1)) + 1 from by omega, List.replicate_succ, List.set_cons_zero, List.replicate_succ', List.append_assoc]; rfl
def tabB (i : Nat) : List UInt8 := (List.range 256).map fun c => if BM.lets.findIdx (· == UInt8.ofNat c) < i then UInt8.ofNat (BM.lets.findIdx (· == UInt8.ofNat c)) else 255
theorem tabB_len (i : Nat) : (tabB i).length = 256 := by simp [tabB]
theorem tabB_zero : tabA 256 = tabB 0 := by decide +kernel
theorem tabB_set : ∀ i, i < 64 → (tabB i).set (BM.letN i).toNat (UInt8.ofNat i) = tabB (i + 1) := by decide +kernel
theorem tabB_end (c : UInt8) : (tabB 64).getD c.toNat 0 = UInt8.ofNat (BM.numN c) := by
  have h : ∀ k, k < 256 → (tabB 64).getD (UInt8.ofNat k).toNat 0 = UInt8.ofNat (BM.numN (UInt8.ofNat k)) := by decide +kernel
  have := h c.toNat c.toNat_lt
  simpa using this
theorem zero_tab (w : World) : (zeroValue 39).run Try.prog w = .ok (.agg (tabZ (tabA 0))) w := by kernel_rfl
def letS : ByteArray := ⟨#[65, 66, 67, 68, 69, 70, 71, 72, 73, 74, 75, 76, 77, 78, 79, 80, 81, 82, 83, 84, 85, 86, 87, 88, 89, 90, 97, 98, 99, 100, 101, 102, 103, 104, 105, 106, 107, 108, 109, 110, 111, 112, 113, 114, 115, 116, 117, 118, 119, 120, 121, 122, 48, 49, 50, 51, 52, 53, 54, 55, 56, 57, 45, 95]⟩
theorem letS_size : letS.size = 64 := by decide
theorem letS_get : ∀ i, (h : i < letS.size) → letS[i]'h = BM.letN i ∧ (letS[i]'h).toNat < 128 := by
  intro i h
  have h2 : ∀ i, i < 64 → letS.data[i]! = BM.letN i ∧ (letS.data[i]!).toNat < 128 := by decide +kernel
  have := h2 i (by rw [letS_size] at h; exact h)
  rw [getElem!_pos letS.data i h] at this
  exact this
theorem shy_setCells (b : Nat) : ∀ (vs : List Value) (o : Nat) (w : World), Shy (fun k => k = b) w (w.setCells b o vs)
  | [], _, _ => Shy.refl _
  | v :: r, o, w => Shy.trans (shy_set o v) (shy_setCells b r (o + 1) _) fun _ _ h => h
theorem blk_setCells (g : Nat) (t : TypeId) (post : List Value) : ∀ (vs mid pre : List Value) (w : World), mid.length = vs.length → Blk w g t (pre ++ mid ++ post).toArray → Blk (w.setCells g pre.length vs) g t (pre ++ vs ++ post).toArray
  | [], mid, pre, w, hl, h => by
    have : mid = [] := List.eq_nil_of_length_eq_zero hl
    subst this
    exact h
  | v :: r, [], pre, w, hl, h => by simp at hl
  | v :: r, m :: mid, pre, w, hl, h => by
    have h1 := h.set_ pre.length v
    have e : ((pre ++ m :: mid ++ post).toArray).setIfInBounds pre.length v = ((pre ++ [v]) ++ mid ++ post).toArray := by
      apply Array.ext'
      simp
    rw [e] at h1
    have := blk_setCells g t post r mid (pre ++ [v]) _ (by simpa using hl) h1
    simpa [World.setCells] using this
theorem blk_setAll {w : World} {g : Nat} {t : TypeId} {cs : Array Value} (h : Blk w g t cs) (vs : List Value) (hl : cs.size = vs.length) : Blk (w.setCells g 0 vs) g t vs.toArray := by
  have := blk_setCells g t [] vs cs.toList [] w (by simpa using hl) (by simpa using h)
  simpa using this
theorem blk_there {w : World} {g : Nat} {t : TypeId} {cs : Array Value} (h : Blk w g t cs) (n : Nat) (hn : n ≤ cs.size) : w.there g 0 n := fun j hj => by
  rw [Nat.zero_add, h.cell j, h.frozen j]; simp; omega
theorem tab_one (L : List UInt8) : (tabZ L).all (·.oneCell') = true := by
  rw [Array.all_eq_true_iff_forall_mem]
  intro v hv
  simp [tabZ] at hv
  obtain ⟨b, _, rfl⟩ := hv
  rfl
end Go.Proofs.Ytgcdpkjohaplcaa

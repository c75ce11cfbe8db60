/- Layer 5, plainly: names that a packer tells stand where they are laid, and so do the tails that it knows. -/
import Derived.Test.YtfimfmghfjokjaaWirP
import Derived.Test.YtfimfmghfjokjaaPakC
namespace Go.Proofs.Ytfimfmghfjokjaa
open Go.BK Go.RowKit Go.BK.NM
set_option linter.unusedVariables false

theorem wire_inj {K L : List Bs} (hK : okL K) (hk : (wire K).length ≤ 255) (hL : okL L) (h : wire K = wire L) : K = L := by
  have a := labels_ok (labS_wire hK) hk
  have b := labels_ok (labS_wire hL) (h ▸ hk)
  rw [h] at a
  exact (Prod.mk.inj (a.symm.trans b)).1
theorem hi_lo {k : Nat} (h : k < 16384) : 192 ≤ (UInt8.ofNat (192 + k / 256)).toNat ∧ ((UInt8.ofNat (192 + k / 256)).toNat - 192) * 256 + (UInt8.ofNat (k % 256)).toNat = k := by
  rw [UInt8.toNat_ofNat', UInt8.toNat_ofNat']
  omega
theorem pack_form {T : Tails} {at_ : Nat} : ∀ (L : List Bs) (o : Nat), (packL T at_ o L).1 = wire L ∨
    ∃ J K k, L = J ++ K ∧ lookT T (wire K) = some k ∧ (packL T at_ o L).1 = flat J ++ [UInt8.ofNat (192 + k / 256), UInt8.ofNat (k % 256)] := by
  intro L
  induction L with
  | nil => intro o; exact .inl rfl
  | cons s L ih =>
    intro o
    cases h : lookT T (wire (s :: L)) with
    | some k => exact .inr ⟨[], s :: L, k, rfl, h, by rw [packL_hit h]; rfl⟩
    | none =>
      rw [packL_new h]
      rcases ih (o + 1 + s.length) with h1 | ⟨J, K, k, rfl, h2, h3⟩
      · left
        simp only [h1]
        rw [wire_flat, wire_flat, flat_cons, List.append_assoc]
      · right
        refine ⟨s :: J, K, k, rfl, h2, ?_⟩
        simp only [h3]
        rw [flat_cons, List.append_assoc]

/-- The tails that are known stand in the bytes. -/
def TailsIn (l : Bs) (T : Tails) : Prop := ∀ p ∈ T, p.2 < 16384 ∧ ∃ K n, okL K ∧ (wire K).length ≤ 255 ∧ p.1 = wire K ∧ Stands l p.2 K n
theorem TailsIn.more {l : Bs} {T : Tails} (h : TailsIn l T) (m : Bs) : TailsIn (l ++ m) T := by
  intro p hp
  obtain ⟨h0, K, n, h1, h2, h3, h4⟩ := h p hp
  exact ⟨h0, K, n, h1, h2, h3, h4.more m⟩

theorem name_stands {l t : Bs} {T : Tails} {at_ o : Nat} {L : List Bs} (hL : okL L) (hl : (wire L).length ≤ 255) (hT : TailsIn l T) (hb : ∀ p ∈ T, p.2 < at_) (hd : l.drop (at_ + o) = (packL T at_ o L).1 ++ t) :
    Stands l (at_ + o) L (at_ + o + (packL T at_ o L).1.length) := by
  rcases pack_form (T := T) (at_ := at_) L o with h | ⟨J, K, k, rfl, hk, h⟩
  · rw [h] at hd ⊢
    exact .clear hd
  · have hm := look_mem hk
    obtain ⟨h0, K', n, o1, o2, o3, o4⟩ := hT _ hm
    have hK : okL K := fun s hs => hL s (by simp [hs])
    obtain rfl := wire_inj hK (by rw [show wire K = wire K' from o3]; exact o2) o1 o3
    rw [h, List.append_assoc] at hd
    have := Stands.point (t := t) hd (hi_lo h0).1 (hi_lo h0).2 (Nat.lt_of_lt_of_le (hb _ hm) (Nat.le_add_right _ _)) o4
    rw [h, show at_ + o + (flat J ++ [UInt8.ofNat (192 + k / 256), UInt8.ofNat (k % 256)]).length = at_ + o + (flat J).length + 2 from by simp; omega]
    exact this

theorem fresh_stands {l : Bs} {T : Tails} {at_ : Nat} (hT : TailsIn l T) (hb : ∀ p ∈ T, p.2 < at_) : ∀ (L : List Bs) (o : Nat) (t : Bs), okL L → (wire L).length ≤ 255 → l.drop (at_ + o) = (packL T at_ o L).1 ++ t →
    TailsIn l (packL T at_ o L).2 := by
  intro L
  induction L with
  | nil => intro o t _ _ _ p hp; rw [packL_nil] at hp; cases hp
  | cons s L ih =>
    intro o t hL hl hd
    have hn := name_stands hL hl hT hb hd
    cases h : lookT T (wire (s :: L)) with
    | some k => intro p hp; rw [packL_hit h] at hp; cases hp
    | none =>
      have hs := wire_shrinks s L
      rw [packL_new h] at hd
      simp only at hd
      have hd2 : l.drop (at_ + (o + 1 + s.length)) = (packL T at_ (o + 1 + s.length) L).1 ++ t := by
        rw [show at_ + (o + 1 + s.length) = at_ + o + (s.length + 1) from by omega, ← List.drop_drop, hd, List.cons_append, List.cons_append, List.drop_succ_cons, List.append_assoc, List.drop_left]
      have hr := ih (o + 1 + s.length) t (fun x hx => hL x (by simp [hx])) (by omega) hd2
      intro p hp
      rw [packL_new h] at hp
      simp only at hp
      split at hp
      · rcases List.mem_cons.1 hp with rfl | hp
        · exact ⟨by assumption, s :: L, _, hL, hl, rfl, hn⟩
        · exact hr p hp
      · exact hr p hp

/-- A name that is told, laid behind what was: it stands, and so do all tails that are known then. -/
theorem back_step {B : Bs} {T : Tails} {L : List Bs} (hT : TailsIn B T) (hL : okL L) (hl : (wire L).length ≤ 255) {R : Bs × Tails} (hR : packL T B.length 0 L = R) :
    TailsIn (B ++ R.1) (T ++ R.2) ∧ Stands (B ++ R.1) B.length L (B ++ R.1).length := by
  have hb : ∀ p ∈ T, p.2 < B.length := by
    intro p hp
    obtain ⟨_, K, n, _, _, _, h⟩ := hT p hp
    have := h.le
    omega
  have hd : (B ++ R.1).drop (B.length + 0) = (packL T B.length 0 L).1 ++ [] := by rw [hR, Nat.add_zero, List.drop_left, List.append_nil]
  have hT2 := hT.more R.1
  have h1 := name_stands hL hl hT2 hb hd
  have h2 := fresh_stands hT2 hb L 0 [] hL hl hd
  rw [hR] at h1 h2
  refine ⟨fun p hp => ?_, by rw [List.length_append]; exact h1⟩
  rcases List.mem_append.1 hp with hp | hp
  · exact hT2 p hp
  · exact h2 p hp
theorem tailsIn_nil (l : Bs) : TailsIn l [] := fun p hp => by cases hp

/-- The names that are laid: where, and that they are read there. -/
def Laid (B : Bs) (P : List (Nat × List Bs)) : Prop := ∀ p ∈ P, okL p.2 ∧ (wire p.2).length ≤ 255 ∧ ∃ n, Stands B p.1 p.2 n
theorem Laid.more {B : Bs} {P : List (Nat × List Bs)} (h : Laid B P) (m : Bs) : Laid (B ++ m) P := fun p hp => by
  obtain ⟨h1, h2, n, h3⟩ := h p hp
  exact ⟨h1, h2, n, h3.more m⟩
theorem Laid.snoc {B : Bs} {P : List (Nat × List Bs)} (h : Laid B P) {a n : Nat} {L : List Bs} (hL : okL L) (hl : (wire L).length ≤ 255) (hs : Stands B a L n) : Laid B (P ++ [(a, L)]) := fun p hp => by
  rcases List.mem_append.1 hp with hp | hp
  · exact h p hp
  · rw [List.mem_singleton] at hp
    subst hp
    exact ⟨hL, hl, n, hs⟩
theorem laid_nil (B : Bs) : Laid B [] := fun p hp => by cases hp
end Go.Proofs.Ytfimfmghfjokjaa

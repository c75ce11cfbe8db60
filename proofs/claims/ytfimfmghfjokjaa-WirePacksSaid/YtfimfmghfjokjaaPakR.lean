/- Packer.Name's last loop: the new tails are laid into the table, in whatever order. -/
import Derived.Test.YtfimfmghfjokjaaPakB
namespace Go.Proofs.Ytfimfmghfjokjaa
open Go.BK Go.RowKit Go.Maps Go.BK.NM
set_option linter.unusedVariables false

def RanT (wr : World) (fb r : Nat) (F : Tails) (left : Lit → Bool) (cnt : Nat) : Prop :=
  ∃ D n, wr.ranges Try.prog 9 RV fb r n D left cnt ∧ ∀ x, WideAt.IsKeyLit x → tabT F x = getF D x
/-- What is so between two rounds. -/
def PakRan (w1 : World) (fb r g mb : Nat) (T F : Tails) (e : Nat) (A : Option Addr) (c : Nat) (l : Bs) (wr : World) : Prop :=
  ∃ left cnt G, RanT wr fb r F left cnt ∧ Blk wr g 47 #[.map (some mb), .int .i64 e] ∧ MapF Try.prog wr 9 mb (tabT (T ++ G)) (T ++ G).length ∧ BK.Own wr (w1.heap.size + 1) 5 A c l ∧
    Shy (fun k => k = mb) w1 wr ∧ (∀ b, blk A = some b → b < r) ∧ (g < w1.heap.size ∧ mb < w1.heap.size ∧ w1.heap.size ≤ fb ∧ fb < r ∧ w1.heap.size < r) ∧
    (∀ p ∈ F, left (.string p.1) = true ↔ p ∉ G) ∧ (∀ p ∈ G, p ∈ F) ∧ G.Pairwise (fun p q => p.1 ≠ q.1)

theorem string_inv {P : Program} {k : TypeId} (hk : P.underlying k = some .string) {key : Value} {kl : Lit} (h : keyOf P k key = some kl) : ∃ s : ByteArray, key = .string s ∧ kl = .string s.data.toList ∧ s.size ≤ maxLen := by
  rw [keyOf_string hk] at h
  unfold mapKey at h
  rw [hk] at h
  cases key with
  | string s =>
    dsimp only at h
    by_cases h1 : s.size ≤ maxLen
    · rw [if_pos h1] at h
      exact ⟨s, rfl, (Option.some.inj h).symm, h1⟩
    · rw [if_neg h1] at h; cases h
  | _ => cases h
theorem key_inv {key : Value} {kl : Lit} (h : keyOf Try.prog 9 key = some kl) : ∃ x : Bs, key = .string (str x) ∧ kl = .string x ∧ x.length ≤ maxLen := by
  obtain ⟨s, rfl, rfl, h1⟩ := string_inv Try.underlying9 h
  exact ⟨s.data.toList, by rw [str_of], rfl, (show s.data.toList.length = s.size from by rw [Array.length_toList]; rfl) ▸ h1⟩
theorem length_le_of_sub {α : Type} [DecidableEq α] : ∀ (G F : List α), G.Nodup → (∀ x ∈ G, x ∈ F) → G.length ≤ F.length := by
  intro G
  induction G with
  | nil => intro F _ _; simp
  | cons x G ih =>
    intro F hn hs
    rw [List.nodup_cons] at hn
    have h1 := ih (F.erase x) hn.2 (fun y hy => by
      have hne : y ≠ x := fun e => hn.1 (e ▸ hy)
      exact (List.mem_erase_of_ne hne).2 (hs y (by simp [hy])))
    have h2 := List.length_erase_of_mem (hs x (by simp))
    have h3 := List.length_pos_of_mem (hs x (by simp))
    simp only [List.length_cons]
    omega
theorem nodup_of {G : Tails} (h : G.Pairwise (fun p q => p.1 ≠ q.1)) : G.Nodup := h.imp fun hne e => hne (by rw [e])
theorem pair_eq {F : Tails} (h : F.Pairwise (fun p q => p.1 ≠ q.1)) {p q : Bs × Nat} (hp : p ∈ F) (hq : q ∈ F) (e : p.1 = q.1) : p = q := by
  have h1 := (look_iff h p.1 p.2).2 hp
  have h2 := (look_iff h q.1 q.2).2 hq
  rw [e, h2] at h1
  have := Option.some.inj h1
  exact Prod.ext e this.symm

/-- What is asked of both lists. -/
def Fresh (T F : Tails) : Prop := T.Pairwise (fun p q => p.1 ≠ q.1) ∧ F.Pairwise (fun p q => p.1 ≠ q.1) ∧ (∀ p ∈ F, lookT T p.1 = none ∧ p.1.length ≤ 255) ∧ T.length + F.length ≤ 2000000
theorem fresh_append {T F G : Tails} (h : Fresh T F) (hG : ∀ p ∈ G, p ∈ F) (hp : G.Pairwise (fun p q => p.1 ≠ q.1)) : (T ++ G).Pairwise (fun p q => p.1 ≠ q.1) :=
  List.pairwise_append.2 ⟨h.1, hp, fun p hp q hq e => look_none.1 (h.2.2.1 q (hG q hq)).1 p hp e⟩

theorem ran_step {w1 wr : World} {fb r g mb e c : Nat} {T F : Tails} {A : Option Addr} {l : Bs} (hf : Fresh T F) (H : PakRan w1 fb r g mb T F e A c l wr) :
    ((Instr.next (.pointer (some ⟨r, 0, none⟩)) false 0).run Try.prog wr = .ok (.tuple #[.bool false]) wr ∧ MapF Try.prog wr 9 mb (tabT (T ++ F)) (T ++ F).length) ∨
    ∃ (x : Bs) (k : Nat) (w' w'' : World), (Instr.next (.pointer (some ⟨r, 0, none⟩)) false 0).run Try.prog wr = .ok (.tuple #[.bool true, .string (str x), .int .i64 k]) w' ∧
      (Instr.entry (.pointer (some ⟨r, 0, none⟩))).run Try.prog w' = .ok (.tuple #[.string (str x), .int .i64 k]) w' ∧ w'.cell? ⟨g, 0, none⟩ = some (.map (some mb)) ∧
      (Instr.mapUpdate 45 (.map (some mb)) (.string (str x)) (.int .i64 k)).run Try.prog w' = .ok () w'' ∧ PakRan w1 fb r g mb T F e A c l w'' ∧ w''.rangeLeft fb r < wr.rangeLeft fb r := by
  obtain ⟨left, cnt, G, ⟨D, n, hran, hD⟩, hB, hM, hO, hS, hA, ⟨b1, b2, b3, b4, b5⟩, hl, hGF, hGp⟩ := H
  have hTG := fresh_append hf hGF hGp
  rcases hran.next keyedS 0 with ⟨_, hall, hrun⟩ | ⟨key, v, kl, y, w', cnt', hkey, hlk, hv, hat, hrun, hrg, hlt, hgr, hsz, hen⟩
  · refine .inl ⟨hrun, ?_⟩
    have hFG : ∀ p, p ∈ G ↔ p ∈ F := fun p => ⟨hGF p, fun hp => by
      have := hl p hp
      rw [hall] at this
      exact Classical.not_not.1 fun h => by have := this.2 h; cases this⟩
    have hlen : G.length = F.length := ((List.perm_ext_iff_of_nodup (nodup_of hGp) (nodup_of hf.2.1)).2 hFG).length_eq
    have := hM.congr (g := tabT (T ++ F)) (fun z => tabT_same (fun x => by
      have h1 := look_iff hTG x
      have h2 := look_iff (fresh_append hf (fun p hp => hp) hf.2.1) x
      cases hx : lookT (T ++ F) x with
      | none =>
        cases hy : lookT (T ++ G) x with
        | none => rfl
        | some k =>
          have := (h1 k).1 hy
          rw [List.mem_append, hFG, ← List.mem_append, ← h2 k, hx] at this
          cases this
      | some k =>
        have := (h2 k).1 hx
        rw [List.mem_append, ← hFG, ← List.mem_append, ← h1 k] at this
        exact this.symm) z)
    rwa [List.length_append, hlen, ← List.length_append] at this
  · right
    obtain ⟨x, rfl, rfl, hxl⟩ := key_inv hkey
    simp only [RV, Option.some.injEq] at hv
    subst hv
    have hhas := has_true_of_atKey hat
    have hgf : getF D (.string x) = some v := by rw [getF_some hhas, hat]; rfl
    have hDx := hD (.string x) trivial
    rw [hgf, tabT_str] at hDx
    obtain ⟨k, hk, rfl⟩ := Option.map_eq_some_iff.1 hDx
    have hm := look_mem hk
    have hnG : (x, k) ∉ G := (hl (x, k) hm).1 hlk
    have hnone : lookT (T ++ G) x = none := by
      rw [look_none]
      intro p hp e
      rcases List.mem_append.1 hp with hp | hp
      · exact look_none.1 (hf.2.2.1 (x, k) hm).1 p hp e
      · exact hnG (pair_eq hf.2.1 (hGF p hp) hm e ▸ hp)
    have hr1 : ∀ j, j < w1.heap.size → some j ≠ some r := fun j hj e => by cases e; omega
    have hM' := hM.kept hgr (hr1 _ b2)
    have hGl : G.length ≤ F.length := length_le_of_sub G F (nodup_of hGp) hGF
    obtain ⟨w'', hst, hM2, hT2⟩ := hM'.store keyedS Try.underlying45 (by have := hf.2.2.2; simp; unfold maxLen; omega) (key_str x hxl) (.int .i64 (k : Int))
    have g2 := hT2.grown
    have hB' : Blk w' g 47 #[.map (some mb), .int .i64 e] := hB.grown hgr (hr1 _ b1)
    refine ⟨x, k, w', w'', hrun, hen, hB'.cell 0, hst, ⟨_, cnt', G ++ [(x, k)], ⟨D, n, hrg.kept g2 (by simp; omega) (by simp; omega), hD⟩, ?_, ?_, ?_, ?_, hA, ⟨b1, b2, b3, b4, b5⟩, ?_, ?_, ?_⟩, ?_⟩
    · exact hB'.grown g2 (fun e => by
        injection e with e; subst e
        obtain ⟨D, ⟨es, clock, hb, _⟩, _⟩ := hM
        unfold Blk at hB; rw [hB] at hb; cases hb)
    · rw [hnF_len' hnone] at hM2
      have := hM2.congr (g := tabT ((T ++ G) ++ [(x, k)])) (fun z => tabT_put hnone z)
      rw [List.append_assoc] at this
      rw [show (T ++ (G ++ [(x, k)])).length = (T ++ G).length + 1 from by simp; omega]
      exact this
    · exact (hO.grown hgr (fun b hb e => by cases e; have := hA _ hb; omega)).grown g2 (fun b hb e => by cases e; have := (hO.lt _ hb).1; omega)
    · exact (hS.grown hgr (fun j hj hlt => by cases hj; omega)).grown g2 (fun j hj hlt => by cases hj; rfl)
    · intro p hp
      have h1 := hl p hp
      by_cases hpx : p.1 = x
      · have hpe := pair_eq hf.2.1 hp hm hpx
        subst hpe
        simp [WideAt.sameKey_self (a := .string x) trivial]
      · have hns : Lit.sameKey (.string p.1) (.string x) = false := by
          cases h : Lit.sameKey (.string p.1) (.string x)
          · rfl
          · have := WideAt.sameKey_eq h
            injection this with this
            exact absurd this hpx
        rw [hns]
        simp only [Bool.not_false, Bool.and_true, List.mem_append, List.mem_singleton, not_or]
        rw [h1]
        exact ⟨fun h => ⟨h, fun e => hpx (by rw [e])⟩, fun h => h.1⟩
    · intro p hp
      rcases List.mem_append.1 hp with hp | hp
      · exact hGF p hp
      · simp at hp; subst hp; exact hm
    · rw [List.pairwise_append]
      refine ⟨hGp, by simp, fun p hp q hq => ?_⟩
      simp at hq
      subst hq
      intro e
      exact hnG (pair_eq hf.2.1 (hGF p hp) hm e ▸ hp)
    · rw [(hrg.kept g2 (by simp; omega) (by simp; omega)).left_eq, hran.left_eq]; exact hlt
end Go.Proofs.Ytfimfmghfjokjaa

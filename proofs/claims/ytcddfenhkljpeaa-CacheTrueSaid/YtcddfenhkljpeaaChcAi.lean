/- Layer 23: the plain law of CacheTrue. -/
import Derived.Test.YtcddfenhkljpeaaChcAe
import Derived.Test.YtcddfenhkljpeaaChcAh
import Derived.Test.YtcddfenhkljpeaaChcQ
namespace Go.Proofs.Ytcddfenhkljpeaa
open Go.BK Go.BK.CH Go.BK.NM Go.RowKit Go.Maps
set_option linter.unusedVariables false
set_option linter.unusedSimpArgs false
/-- What was put is what is kept. -/
def EntOf (p : PutS) (e : Ent) (t : Int) : Prop :=
  checkS p.nm = 0 ∧ lower p.nm = e.n ∧ p.kind = e.k ∧ p.now ≤ t ∧ 0 < p.ttl ∧ (if p.is = true then e.x = .known p.s p.rank (p.now + p.ttl) ∧ p.ttl = p.s.ttl ∧ 1 ≤ p.s.data.length ∧ p.s.data.length ≤ 64 else e.x = .none (p.now + p.ttl))
def KeyP (p : PutS) (e : Ent) : Prop := lower p.nm = e.n ∧ p.kind = e.k
def TrueInv (s : StC) (M : List Pm) (t : Int) : Prop :=
  s.now ≤ t ∧ ∀ e ∈ s.L, ∃ i, i < M.length ∧ EntOf (M.getD i pm0).p e t ∧ ∀ j, i < j → j < M.length → ¬ KeyP (M.getD j pm0).p e
theorem getD_app_l {M : List Pm} {m : Pm} {i : Nat} (h : i < M.length) : (M ++ [m]).getD i pm0 = M.getD i pm0 := by
  simp [List.getD, List.getElem?_append_left h]
theorem getD_app_r {M : List Pm} {m : Pm} : (M ++ [m]).getD M.length pm0 = m := by simp [List.getD]
theorem inv_nil : TrueInv ⟨0, []⟩ [] 0 := ⟨Int.le_refl _, fun e he => by cases he⟩
theorem inv_up {s : StC} {M : List Pm} {t u : Int} (h : TrueInv s M t) (hu : t ≤ u) : TrueInv s M u := by
  refine ⟨Int.le_trans h.1 hu, fun e he => ?_⟩
  obtain ⟨i, h1, h2, h3⟩ := h.2 e he
  exact ⟨i, h1, ⟨h2.1, h2.2.1, h2.2.2.1, Int.le_trans h2.2.2.2.1 hu, h2.2.2.2.2⟩, h3⟩
theorem inv_sub {s : StC} {M : List Pm} {t n : Int} {L : List Ent} (h : TrueInv s M t) (hn : n ≤ t) (hL : ∀ e ∈ L, e ∈ s.L) : TrueInv ⟨n, L⟩ M t :=
  ⟨hn, fun e he => h.2 e (hL e he)⟩
theorem inv_add {s : StC} {M : List Pm} {t n : Int} {L : List Ent} {m : Pm} {ne : Ent} (h : TrueInv s M t) (hn : n ≤ t) (hL : ∀ e ∈ L, e = ne ∨ (e ∈ s.L ∧ ¬ e.is ne.n ne.k)) (hm : EntOf m.p ne t) : TrueInv ⟨n, L⟩ (M ++ [m]) t := by
  refine ⟨hn, fun e he => ?_⟩
  rcases hL e he with rfl | ⟨h1, h2⟩
  · refine ⟨M.length, by simp, by rw [getD_app_r]; exact hm, fun j hj hj2 => by simp at hj2; omega⟩
  · obtain ⟨i, g1, g2, g3⟩ := h.2 e h1
    refine ⟨i, by simp; omega, by rw [getD_app_l g1]; exact g2, fun j hj hj2 => ?_⟩
    rcases Nat.lt_or_ge j M.length with h3 | h3
    · rw [getD_app_l h3]; exact g3 j hj h3
    · have e3 : j = M.length := by simp at hj2; omega
      rw [e3, getD_app_r]
      rintro ⟨k1, k2⟩
      exact h2 ⟨by rw [← k1, hm.2.1], by rw [← k2, hm.2.2.1]⟩
theorem putE_mem {most : Int} {L : List Ent} {ne e : Ent} (h : e ∈ putE most L ne) : e = ne ∨ (e ∈ L ∧ ¬ e.is ne.n ne.k) := by
  have key : ∀ e ∈ outE L ne.n ne.k ++ [ne], e = ne ∨ (e ∈ L ∧ ¬ e.is ne.n ne.k) := fun e he => by
    simp only [List.mem_append, List.mem_singleton] at he
    rcases he with he | he
    · exact .inr ⟨(List.mem_filter.1 he).1, by simpa using (List.mem_filter.1 he).2⟩
    · exact .inl he
  unfold putE at h
  split at h
  · exact key e (List.mem_of_mem_tail h)
  · exact key e h
def putOf (x : SetS) (rank at_ : Int) (A : Option Addr) (d : Nat) : Pm := ⟨⟨x.nm, x.ty, x, true, x.ttl, rank, at_⟩, A, d⟩
def noneOf (n : List UInt8) (kind ttl at_ : Int) : Pm := ⟨⟨n, kind, ⟨[], 0, 0, 0, []⟩, false, ttl, 3, at_⟩, none, 0⟩
theorem true_put {s : StC} {M : List Pm} {t most : Int} (h : TrueInv s M t) {x : SetS} {rank at_ : Int} (hat : t ≤ at_) (A : Option Addr) (d : Nat) :
    ((putG most s x rank at_).2.1 = true → TrueInv (putG most s x rank at_).1 (M ++ [putOf x rank at_ A d]) at_ ∧ chkS x = 0 ∧ inTime at_ ∧ 1 ≤ rank ∧ rank ≤ 3) ∧ ((putG most s x rank at_).2.1 = false → TrueInv (putG most s x rank at_).1 M at_) := by
  have hu := inv_up h hat
  have htm : tmax s.now at_ = at_ := tmax_le _ _ (Int.le_trans h.1 hat)
  unfold putG
  split
  · exact ⟨(fun e => by cases e), fun _ => hu⟩
  · rename_i hb
    obtain ⟨b1, b2, b3, b4, b5, b6⟩ := putBad_no hb
    split
    · exact ⟨(fun e => by cases e), fun _ => by simp only; rw [htm]; exact inv_sub hu (Int.le_refl _) (fun e he => he)⟩
    · rename_i htt
      have b1' := b1
      unfold chkS at b1'
      split at b1'
      rotate_left
      · cases b1'
      rename_i g
      have hm : EntOf (putOf x rank at_ A d).p (setE x rank at_) at_ := by
        refine ⟨g.1, rfl, rfl, Int.le_refl _, by show 0 < x.ttl; have := g.2.2.2.1.1; omega, ?_⟩
        show if true = true then _ else _
        rw [if_pos rfl]
        exact ⟨rfl, rfl, g.2.2.2.2.1.1, g.2.2.2.2.1.2⟩
      have yes : ∀ L : List Ent, (∀ e ∈ L, e ∈ s.L) → TrueInv ⟨at_, putE most L (setE x rank at_)⟩ (M ++ [putOf x rank at_ A d]) at_ := fun L hL =>
        inv_add hu (Int.le_refl _) (fun e he => (putE_mem he).imp id (fun h => ⟨hL e h.1, h.2⟩)) hm
      have nos : TrueInv ⟨at_, s.L⟩ M at_ := inv_sub hu (Int.le_refl _) (fun e he => he)
      simp only
      unfold putS
      rw [htm]
      have rk : 1 ≤ rank ∧ rank ≤ 3 := by omega
      split
      · split
        · exact ⟨(fun e => by cases e), fun _ => nos⟩
        · split
          · exact ⟨fun _ => ⟨yes _ (fun e he => he), b1, b6, rk.1, rk.2⟩, fun e => by cases e⟩
          · exact ⟨(fun e => by cases e), fun _ => nos⟩
        · exact ⟨fun _ => ⟨yes _ (fun e he => he), b1, b6, rk.1, rk.2⟩, fun e => by cases e⟩
      · exact ⟨fun _ => ⟨yes _ (fun e he => outE_sub e he), b1, b6, rk.1, rk.2⟩, fun e => by cases e⟩
theorem true_none {s : StC} {M : List Pm} {t most : Int} (h : TrueInv s M t) {n : List UInt8} {kind ttl at_ : Int} (hat : t ≤ at_) :
    ((noneG most s n kind ttl at_).2.1 = true → TrueInv (noneG most s n kind ttl at_).1 (M ++ [noneOf n kind ttl at_]) at_ ∧ (0 ≤ kind ∧ kind ≤ 65535) ∧ (0 < ttl ∧ ttl < 2147483648) ∧ inTime at_) ∧ ((noneG most s n kind ttl at_).2.1 = false → TrueInv (noneG most s n kind ttl at_).1 M at_) := by
  have hu := inv_up h hat
  have htm : tmax s.now at_ = at_ := tmax_le _ _ (Int.le_trans h.1 hat)
  unfold noneG
  split
  · exact ⟨(fun e => by cases e), fun _ => hu⟩
  · rename_i hb
    obtain ⟨b1, b2, b3, b4, b5, b6⟩ := noneBad_no hb
    split
    · exact ⟨(fun e => by cases e), fun _ => by simp only; rw [htm]; exact inv_sub hu (Int.le_refl _) (fun e he => he)⟩
    · rename_i htt
      have hm : EntOf (noneOf n kind ttl at_).p (noneE (lower n) kind (at_ + ttl)) at_ := by
        refine ⟨b1, rfl, rfl, Int.le_refl _, by show 0 < ttl; omega, ?_⟩
        show if false = true then _ else _
        rw [if_neg (by decide)]
        rfl
      refine ⟨fun _ => ⟨?_, by omega, by omega, b6⟩, fun e => by cases e⟩
      simp only
      unfold putNoneS
      rw [htm]
      refine inv_add hu (Int.le_refl _) (fun e he => (putE_mem he).imp id (fun h => ⟨?_, h.2⟩)) hm
      have h1 := h.1
      split at h1
      · exact (List.mem_filter.1 h1).1
      · exact h1
theorem true_sweep {s : StC} {M : List Pm} {t : Int} (h : TrueInv s M t) {at_ : Int} (hat : t ≤ at_) (hin : inTime at_) :
    TrueInv (sweepG s at_).1 M at_ ∧ (sweepG s at_).2 = s.L.length - (sweepG s at_).1.L.length ∧ (sweepG s at_).1.L.length ≤ s.L.length := by
  unfold sweepG
  rw [if_pos hin]
  have htm : tmax s.now at_ = at_ := tmax_le _ _ (Int.le_trans h.1 hat)
  refine ⟨?_, rfl, List.length_filter_le _ _⟩
  simp only
  rw [htm]
  exact inv_sub (inv_up h hat) (Int.le_refl _) (fun e he => (List.mem_filter.1 he).1)
/-- What is told was put. -/
theorem told_of {s : StC} {M : List Pm} {t most : Int} (h : TrueInv s M t) (hok : StOk most s) {a : ActS} (hat : t ≤ a.now) (hin : inTime a.now) :
    TrueInv (getG s a.nm a.type a.rank a.now).1 M a.now ∧ ((getG s a.nm a.type a.rank a.now).2.kind = 0 ∨ ((getG s a.nm a.type a.rank a.now).2.kind ≠ 0 ∧ ToldOk (getG s a.nm a.type a.rank a.now).2 M a)) := by
  have hu := inv_up h hat
  have htm : tmax s.now a.now = a.now := tmax_le _ _ (Int.le_trans h.1 hat)
  have back : ∀ {n : List UInt8} {k : Int} {e : Ent}, liveE s.L a.now n k = some e → TrueInv ⟨a.now, backE s.L e⟩ M a.now := fun {n k e} he =>
    inv_sub hu (Int.le_refl _) (fun f hf => (backE_mem hok.2.2.2.2 (live_mem he).1 f).1 hf)
  have stay : TrueInv ⟨a.now, s.L⟩ M a.now := inv_sub hu (Int.le_refl _) (fun e he => he)
  have found : ∀ {k : Int} {e : Ent} (f : FoundS), checkS a.nm = 0 → liveE s.L a.now (lower a.nm) k = some e → kindF f a = k →
      (∀ p : PutS, EntOf p e a.now → ToldP f a p) → ToldOk f M a := by
    intro k e f hc he hk hp
    obtain ⟨m1, m2, m3⟩ := live_mem he
    obtain ⟨i, g1, g2, g3⟩ := hu.2 e m1
    refine ⟨i, g1, ⟨?_, by rw [hk, g2.2.2.1]; exact m2.2⟩, fun j hj hj2 hh => g3 j hj hj2 ?_, hp _ g2⟩
    · unfold sameB
      exact decide_eq_true ⟨g2.1, hc, by rw [g2.2.1]; exact m2.1⟩
    · obtain ⟨h1, h2⟩ := hh
      unfold sameB at h1
      have h1 := of_decide_eq_true h1
      exact ⟨by rw [h1.2.2]; exact m2.1.symm, by rw [h2, hk]; exact m2.2.symm⟩
  have nop : ∀ {e : Ent} {x : Int} {k : Int}, e.x = .none x → a.now < x → k ≠ 1 → ∀ p : PutS, EntOf p e a.now → ToldP ⟨k, zeroS, x - a.now⟩ a p := by
    intro e x k hx hlt hk p hp
    obtain ⟨_, _, _, p4, p5, p6⟩ := hp
    cases his : p.is with
    | true =>
      rw [his, if_pos rfl, hx] at p6
      cases p6.1
    | false =>
      rw [his, if_neg (by decide), hx] at p6
      injection p6 with p6
      refine ⟨by show x - a.now = _; omega, by show 1 ≤ x - a.now; omega, by rw [his]; simp [hk], fun e => by rw [his] at e; cases e⟩
  have two : checkS a.nm = 0 → TrueInv (get2S s.L a.now (lower a.nm)).1 M a.now ∧ ((get2S s.L a.now (lower a.nm)).2.kind = 0 ∨ ((get2S s.L a.now (lower a.nm)).2.kind ≠ 0 ∧ ToldOk (get2S s.L a.now (lower a.nm)).2 M a)) := by
    intro hc
    unfold get2S
    split
    · rename_i e he
      refine ⟨back he, .inr ⟨by simp, ?_⟩⟩
      obtain ⟨m1, m2, m3⟩ := live_mem he
      cases hx : e.x with
      | known y rk x => exact absurd m2.2 ((hok.2.2.2.1 e m1).2.2 y rk x hx).1
      | none x =>
        rw [hx] at m3
        have : (Th.none x).till = x := rfl
        rw [this] at m3 ⊢
        exact found _ hc he rfl (nop hx m3 (by decide))
    · exact ⟨stay, .inl rfl⟩
  unfold getG
  split
  · exact ⟨hu, .inl rfl⟩
  · rename_i hb
    have hc : checkS a.nm = 0 := by
      unfold getBad at hb
      simp only [not_or, Classical.not_not, ne_eq] at hb
      exact hb.1
    unfold getS
    rw [htm]
    split
    · rename_i n0 k0 y rk x he
      split
      · rename_i hrk
        refine ⟨back he, .inr ⟨by simp, ?_⟩⟩
        obtain ⟨m1, m2, m3⟩ := live_mem he
        have m3 : a.now < x := m3
        refine found _ hc he rfl fun p hp => ?_
        obtain ⟨_, _, _, p4, p5, p6⟩ := hp
        cases his : p.is with
        | false =>
          rw [his, if_neg (by decide)] at p6
          cases p6
        | true =>
          rw [his, if_pos rfl] at p6
          obtain ⟨q1, q2, q3, q4⟩ := p6
          injection q1 with q1 q5 q6
          subst q1; subst q5
          refine ⟨by show x - a.now = _; omega, by show 1 ≤ x - a.now; omega, by rw [his]; simp, fun _ => ⟨hrk, ⟨q3, by omega⟩, ⟨by omega, by omega⟩, ?_⟩⟩
          show (⟨p.s.nm, p.s.ty, p.s.cl, x - a.now, p.s.data⟩ : SetS) = _
          congr 1
          omega
      · exact two hc
    · rename_i n0 k0 x he
      refine ⟨back he, .inr ⟨by simp only; split <;> decide, ?_⟩⟩
      obtain ⟨m1, m2, m3⟩ := live_mem he
      have m3 : a.now < x := m3
      refine found _ hc he ?_ ?_
      · unfold kindF
        simp only
        by_cases h0 : a.type = 0
        · rw [if_pos h0, if_pos rfl, h0]
        · rw [if_neg h0, if_neg (by decide)]
      · exact nop (e := ⟨n0, k0, .none x⟩) rfl m3 (by split <;> decide)
    · exact two hc
end Go.Proofs.Ytcddfenhkljpeaa

import Derived.Test.YtcddfenhkljpeaaChcK
import Derived.Test.YtcddfenhkljpeaaChnN
import Derived.Test.YtcddfenhkljpeaaCsB
import Derived.Test.YtcddfenhkljpeaaCsA
/- Layer 23: the cache in memory, and what it keeps, plainly. -/
namespace Go.BK.CH
/-- A set; what is kept. -/
structure SetS where
  nm : List UInt8
  ty : Int
  cl : Int
  ttl : Int
  data : List (List UInt8)
inductive Th where
  | none (e : Int)
  | known (s : SetS) (rank e : Int)
def Th.till : Th → Int
  | .none e => e
  | .known _ _ e => e
def Th.data : Th → List (List UInt8)
  | .none _ => []
  | .known s _ _ => s.data
/-- A row: its key, what is kept, its element's block, where the data stands. -/
structure Row where
  n : List UInt8
  k : Int
  x : Th
  b : Nat
  A : Option Addr
  c : Nat
def Row.is (r : Row) (n : List UInt8) (k : Int) : Prop := r.n = n ∧ r.k = k
instance (r : Row) (n : List UInt8) (k : Int) : Decidable (r.is n k) := by unfold Row.is; infer_instance
def DiffR (R : List Row) : Prop := R.Pairwise (fun r s => ¬ r.is s.n s.k)
end Go.BK.CH
namespace Go.Proofs.Ytcddfenhkljpeaa
open Go.BK Go.BK.CH Go.RowKit Go.Maps
set_option linter.unusedVariables false
theorem str_inj {a b : List UInt8} (h : str a = str b) : a = b := by
  have h1 : (str a).data = (str b).data := by rw [h]
  simpa [str] using h1
def thV (x : Th) (A : Option Addr) (c : Nat) : Value :=
  match x with
  | .none e => .iface 82 (.agg #[.int .i64 e])
  | .known s rank e => .iface 84 (.agg #[.string (str s.nm), .int .i64 s.ty, .int .i64 s.cl, .int .i64 s.ttl, .slice A s.data.length c, .int .i64 rank, .int .i64 e])
def entV (r : Row) : Value := .iface 95 (.agg #[.string (str r.n), .int .i64 r.k, thV r.x r.A r.c])
def eltC (r : Row) : Elt := (r.b, entV r)
def wfN (n : List UInt8) (k : Int) : Prop := (-9223372036854775808 ≤ k ∧ k ≤ 9223372036854775807) ∧ n.length ≤ 2000000
theorem wfN.key {n : List UInt8} {k : Int} (h : wfN n k) : wfK (str n) k := ⟨h.1, by rw [str_size]; exact Nat.le_trans h.2 (by decide)⟩
theorem kn_inj {n m : List UInt8} {c d : Int} (h : wfN n c) (k : wfN m d) (e : kl (str n) c = kl (str m) d) : n = m ∧ c = d := by
  obtain ⟨h1, h2⟩ := kl_inj h.key k.key e
  exact ⟨str_inj h1, h2⟩
open Classical in
noncomputable def hitC (x : Lit) (r : Row) : Bool := decide (kl (str r.n) r.k = x)
theorem hitC_iff {x : Lit} {r : Row} : hitC x r = true ↔ kl (str r.n) r.k = x := by unfold hitC; simp
theorem hitC_no {x : Lit} {r : Row} (h : ¬ kl (str r.n) r.k = x) : hitC x r = false := by rw [Bool.eq_false_iff]; intro e; exact h (hitC_iff.1 e)
noncomputable def tabC (R : List Row) : Lit → Option Value := fun x => (R.find? (hitC x)).map fun r => pt r.b
theorem tabC_at {P1 P2 : List Row} {r : Row} (hwf : ∀ s ∈ P1 ++ r :: P2, wfN s.n s.k) (hd : DiffR (P1 ++ r :: P2)) : tabC (P1 ++ r :: P2) (kl (str r.n) r.k) = some (pt r.b) := by
  unfold tabC
  rw [List.find?_append]
  have h1 : P1.find? (hitC (kl (str r.n) r.k)) = none := by
    rw [List.find?_eq_none]
    intro s hs e
    have e := hitC_iff.1 e
    have := kn_inj (hwf s (by simp [hs])) (hwf r (by simp)) e
    unfold DiffR at hd
    rw [List.pairwise_append] at hd
    exact hd.2.2 s hs r (by simp) this
  rw [h1, List.find?_cons, hitC_iff.2 rfl]; rfl
theorem tabC_no {R : List Row} {n : List UInt8} {k : Int} (hwf : ∀ r ∈ R, wfN r.n r.k) (hk : wfN n k) (hno : ∀ r ∈ R, ¬ r.is n k) : tabC R (kl (str n) k) = none := by
  unfold tabC
  rw [List.find?_eq_none.2]
  · rfl
  · intro s hs e
    have e := hitC_iff.1 e
    exact hno s hs (kn_inj (hwf s hs) hk e)
theorem tabC_put {R : List Row} {r : Row} (hwf : ∀ r ∈ R, wfN r.n r.k) (hr : wfN r.n r.k) (hno : ∀ s ∈ R, ¬ s.is r.n r.k) (x : Lit) : tabC (R ++ [r]) x = putF (tabC R) (kl (str r.n) r.k) (pt r.b) x := by
  unfold putF
  by_cases h : x = kl (str r.n) r.k
  · rw [if_pos h, h]
    have h1 := tabC_no hwf hr hno
    unfold tabC at h1 ⊢
    rw [List.find?_append]
    have h2 : R.find? (hitC (kl (str r.n) r.k)) = none := by simpa using h1
    rw [h2, List.find?_cons, hitC_iff.2 rfl]; rfl
  · rw [if_neg h]
    unfold tabC
    rw [List.find?_append]
    have h2 : [r].find? (hitC x) = none := by rw [List.find?_cons, hitC_no (Ne.symm h)]; rfl
    rw [h2]; simp
theorem tabC_gone {P1 P2 : List Row} {r : Row} (hwf : ∀ s ∈ P1 ++ r :: P2, wfN s.n s.k) (hd : DiffR (P1 ++ r :: P2)) (x : Lit) : tabC (P1 ++ P2) x = delF (tabC (P1 ++ r :: P2)) (kl (str r.n) r.k) x := by
  unfold delF
  unfold DiffR at hd
  rw [List.pairwise_append, List.pairwise_cons] at hd
  have hsep : ∀ s, s ∈ P1 ∨ s ∈ P2 → ¬ kl (str s.n) s.k = kl (str r.n) r.k := by
    intro s hs e
    have hso : wfN s.n s.k := hwf s (by rcases hs with hs | hs <;> simp [hs])
    have := kn_inj hso (hwf r (by simp)) e
    rcases hs with hs | hs
    · exact hd.2.2 s hs r (by simp) this
    · exact hd.2.1.1 s hs ⟨this.1.symm, this.2.symm⟩
  by_cases h : x = kl (str r.n) r.k
  · rw [if_pos h]
    unfold tabC
    rw [List.find?_eq_none.2]
    · rfl
    · intro s hs e
      have e := hitC_iff.1 e
      rw [h] at e
      exact hsep s (List.mem_append.1 hs) e
  · rw [if_neg h]
    unfold tabC
    rw [List.find?_append, List.find?_append, List.find?_cons, hitC_no (Ne.symm h)]
theorem shy_mapF {U : Nat → Prop} {w w' : World} {k : TypeId} {b s : Nat} {f : Lit → Option Value} (hs : Shy U w w') (h : MapF Try.prog w k b f s) (hb : ¬ U b) : MapF Try.prog w' k b f s := by
  obtain ⟨D, ⟨es, clock, hb', r1⟩, r2⟩ := h
  exact ⟨D, ⟨es, clock, (hs.block b (Array.getElem?_eq_some_iff.1 hb').1 hb).trans hb', r1⟩, r2⟩
theorem blk_ne_map {P : Program} {w : World} {g b s : Nat} {t k : TypeId} {cs : Array Value} {f : Lit → Option Value} (hg : Blk w g t cs) (hm : MapF P w k b f s) : g ≠ b := by
  rintro rfl
  obtain ⟨D, ⟨es, clock, hb, _⟩, _⟩ := hm
  unfold Blk at hg
  rw [hg] at hb
  cases hb
theorem blk_ne_own {ok : Value → Prop} {w : World} {base size n c g : Nat} {e t : TypeId} {A : Option Addr} {xs : List Value} {cs : Array Value} (hg : Blk w g t cs) (ho : OwnG ok w base e size A n c xs) (ne : t ≠ e) : blk A ≠ some g := by
  intro hA
  rcases ho with ⟨rfl, _⟩ | ⟨b, full, rfl, _, hb, _⟩
  · cases hA
  · simp at hA
    subst hA
    exact blk_ne hg hb ne rfl
theorem map_ne_own {P : Program} {ok : Value → Prop} {w : World} {base size n c b s : Nat} {e k : TypeId} {A : Option Addr} {xs : List Value} {f : Lit → Option Value} (hm : MapF P w k b f s) (ho : OwnG ok w base e size A n c xs) : blk A ≠ some b := by
  intro hA
  rcases ho with ⟨rfl, _⟩ | ⟨g, full, rfl, _, hg, _⟩
  · cases hA
  · simp at hA
    subst hA
    obtain ⟨D, ⟨es, clock, hb, _⟩, _⟩ := hm
    rw [hg] at hb
    cases hb
def OkC (most now : Int) (R : List Row) : Prop :=
  1 ≤ most ∧ most ≤ 4096 ∧ 0 ≤ now ∧ now ≤ 1099511627776 ∧ (R.length : Int) ≤ most ∧ (∀ r ∈ R, wfN r.n r.k ∧ 0 ≤ r.x.till ∧ r.x.till ≤ 2199023255552 ∧ r.x.data.length ≤ 64) ∧ DiffR R
/-- The cache in memory, but for its bounds. -/
def CacM (w : World) (g og mb : Nat) (most now : Int) (R : List Row) : Prop :=
  Blk w g 64 #[.int .i64 most, .int .i64 now, pt og, .map (some mb)] ∧ RingB w og (R.map eltC) ∧ MapF Try.prog w 77 mb (tabC R) R.length ∧
  ∀ r ∈ R, OwnG isT w 0 9 1 r.A r.x.data.length r.c (tvs r.x.data)
def CacB (w : World) (g og mb : Nat) (most now : Int) (R : List Row) : Prop := CacM w g og mb most now R ∧ OkC most now R
/-- The cache's own blocks; the last ones it never writes. -/
def ownsC (g og mb : Nat) (R : List Row) (k : Nat) : Prop := k = g ∨ k = og ∨ k = mb ∨ (∃ r ∈ R, r.b = k) ∨ ∃ r ∈ R, blk r.A = some k
section
variable {w w' : World} {g og mb : Nat} {most now : Int} {R : List Row}
theorem mem_elt {R : List Row} {y : Elt} (h : y ∈ R.map eltC) : ∃ r ∈ R, r.b = y.1 := by
  rw [List.mem_map] at h
  obtain ⟨r, hr, rfl⟩ := h
  exact ⟨r, hr, rfl⟩
theorem CacM.shy {U : Nat → Prop} (h : CacM w g og mb most now R) (hs : Shy U w w') (hU : ∀ k, ownsC g og mb R k → ¬ U k) : CacM w' g og mb most now R := by
  obtain ⟨h1, h2, h3, h4⟩ := h
  refine ⟨h1.shy hs (hU _ (.inl rfl)), h2.shy hs (hU _ (.inr (.inl rfl))) (fun y hy => ?_), shy_mapF hs h3 (hU _ (.inr (.inr (.inl rfl)))), fun r hr => hs.ownG (h4 r hr) (fun k hk => hU k (.inr (.inr (.inr (.inr ⟨r, hr, hk⟩)))))⟩
  obtain ⟨r, hr, e⟩ := mem_elt hy
  exact hU _ (.inr (.inr (.inr (.inl ⟨r, hr, e⟩))))
theorem CacM.ext (h : CacM w g og mb most now R) (x : Ext w w') : CacM w' g og mb most now R := h.shy (U := fun _ => False) (Shy.of_ext x) fun _ _ h => h
theorem CacB.shy {U : Nat → Prop} (h : CacB w g og mb most now R) (hs : Shy U w w') (hU : ∀ k, ownsC g og mb R k → ¬ U k) : CacB w' g og mb most now R := ⟨h.1.shy hs hU, h.2⟩
theorem CacB.ext (h : CacB w g og mb most now R) (x : Ext w w') : CacB w' g og mb most now R := ⟨h.1.ext x, h.2⟩
theorem CacM.elt (h : CacM w g og mb most now R) {r : Row} (hr : r ∈ R) : ∃ a b, Blk w r.b 108 #[entV r, a, b, pt og] := h.2.1.2.1.blk (eltC r) (List.mem_map_of_mem hr)
theorem CacM.lt (h : CacM w g og mb most now R) {k : Nat} (hk : ownsC g og mb R k) : k < w.heap.size := by
  rcases hk with rfl | rfl | rfl | ⟨r, hr, rfl⟩ | ⟨r, hr, hk⟩
  · exact h.1.lt
  · exact h.2.1.1.lt
  · exact h.2.2.1.lt
  · obtain ⟨_, _, hb⟩ := h.elt hr
    exact hb.lt
  · exact ((h.2.2.2 r hr).lt k hk).2
theorem CacM.cells (h : CacM w g og mb most now R) : w.cell? ⟨g, 0, none⟩ = some (.int .i64 most) ∧ w.cell? ⟨g, 1, none⟩ = some (.int .i64 now) ∧ w.cell? ⟨g, 2, none⟩ = some (pt og) ∧ w.cell? ⟨g, 3, none⟩ = some (.map (some mb)) ∧ ∀ i, w.frozen? ⟨g, i, none⟩ = false :=
  ⟨h.1.cell 0, h.1.cell 1, h.1.cell 2, h.1.cell 3, h.1.frozen⟩
theorem CacM.ne (h : CacM w g og mb most now R) : g ≠ og ∧ g ≠ mb ∧ og ≠ mb ∧ (∀ r ∈ R, r.b ≠ g ∧ r.b ≠ og ∧ r.b ≠ mb) ∧ (∀ r ∈ R, blk r.A ≠ some g ∧ blk r.A ≠ some og ∧ blk r.A ≠ some mb ∧ ∀ s ∈ R, blk r.A ≠ some s.b) := by
  refine ⟨blk_ne h.1 h.2.1.1 (by decide), blk_ne_map h.1 h.2.2.1, blk_ne_map h.2.1.1 h.2.2.1, fun r hr => ?_, fun r hr => ?_⟩
  · obtain ⟨_, _, hb⟩ := h.elt hr
    exact ⟨blk_ne hb h.1 (by decide), blk_ne hb h.2.1.1 (by decide), blk_ne_map hb h.2.2.1⟩
  · refine ⟨blk_ne_own h.1 (h.2.2.2 r hr) (by decide), blk_ne_own h.2.1.1 (h.2.2.2 r hr) (by decide), map_ne_own h.2.2.1 (h.2.2.2 r hr), fun s hs => ?_⟩
    obtain ⟨_, _, hb⟩ := h.elt hs
    exact blk_ne_own hb (h.2.2.2 r hr) (by decide)
/-- The time is set. -/
theorem CacM.time (h : CacM w g og mb most now R) (t : Int) : CacM (w.setCell ⟨g, 1, none⟩ (.int .i64 t)) g og mb most t R := by
  have hs := set_shy g 1 (.int .i64 t) w
  obtain ⟨n1, n2, n3, n4, n5⟩ := h.ne
  obtain ⟨h1, h2, h3, h4⟩ := h
  refine ⟨h1.set_ 1 _, h2.shy hs (fun e => n1 e.symm) (fun y hy e => ?_), shy_mapF hs h3 (fun e => n2 e.symm), fun r hr => hs.ownG (h4 r hr) (fun k hk e => (n5 r hr).1 (e ▸ hk))⟩
  obtain ⟨r, hr, e2⟩ := mem_elt hy
  exact (n4 r hr).1 (e2.trans e)
end
end Go.Proofs.Ytcddfenhkljpeaa

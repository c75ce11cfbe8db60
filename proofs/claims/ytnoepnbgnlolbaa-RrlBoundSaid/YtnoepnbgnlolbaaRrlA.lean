/- Layer 19: the limiter in memory, and what it does, plainly. -/
import Derived.Test.YtnoepnbgnlolbaaRrlK
import Derived.Test.YtnoepnbgnlolbaaKStep
namespace Go.Proofs.Ytnoepnbgnlolbaa
open Go.BK Go.RowKit Go.Maps
set_option linter.unusedVariables false
/-- A key: its client, its name, when its window began, how many came. -/
structure Ent where
  c : Int
  n : ByteArray
  b : Int
  k : Int
structure Par where
  most : Int
  limit : Int
  window : Int
  slip : Int
def Par.ok (p : Par) : Prop := 1 ≤ p.most ∧ p.most ≤ 1024 ∧ 0 ≤ p.limit ∧ p.limit ≤ 1073741824 ∧ 1 ≤ p.window ∧ p.window ≤ 1073741824 ∧ 0 ≤ p.slip ∧ p.slip ≤ 1073741824
def wfK (c : Int) (n : ByteArray) : Prop := (-9223372036854775808 ≤ c ∧ c ≤ 9223372036854775807) ∧ n.size ≤ 255
def Ent.ok (e : Ent) : Prop := wfK e.c e.n ∧ 0 ≤ e.b ∧ e.b ≤ 1099511627776 ∧ 0 ≤ e.k ∧ e.k ≤ 1073741824
noncomputable def kl (c : Int) (n : ByteArray) : Lit := (keyOf Try.prog 46 (kv c n)).getD (.bool false)
theorem kl_key {c : Int} {n : ByteArray} (h : wfK c n) : keyOf Try.prog 46 (kv c n) = some (kl c n) := by
  obtain ⟨l, hl⟩ := key_mk c n h.1 (by have := h.2; unfold maxLen; omega)
  unfold kl
  rw [hl]; rfl
theorem kl_inj {c d : Int} {n m : ByteArray} (h : wfK c n) (k : wfK d m) (e : kl c n = kl d m) : c = d ∧ n = m := by
  have := keyed.inj (kl_key h) (e ▸ kl_key k)
  unfold kv at this
  simpa using this
abbrev Row := Ent × Nat
def Row.is (r : Row) (c : Int) (n : ByteArray) : Prop := r.1.c = c ∧ r.1.n = n
instance (r : Row) (c : Int) (n : ByteArray) : Decidable (r.is c n) := by unfold Row.is; infer_instance
open Classical in
noncomputable def hitR (x : Lit) (r : Row) : Bool := decide (kl r.1.c r.1.n = x)
theorem hitR_iff {x : Lit} {r : Row} : hitR x r = true ↔ kl r.1.c r.1.n = x := by unfold hitR; simp
theorem hitR_no {x : Lit} {r : Row} (h : ¬ kl r.1.c r.1.n = x) : hitR x r = false := by rw [Bool.eq_false_iff]; intro e; exact h (hitR_iff.1 e)
noncomputable def tabR (P : List Row) : Lit → Option Value := fun x => (P.find? (hitR x)).map fun r => .pointer (some ⟨r.2, 0, none⟩)
def cellsR (P : List Row) : List Value := P.flatMap fun r => [.int .i64 r.1.c, .string r.1.n]
def isOne (v : Value) : Prop := v.oneCell' = true
/-- What is so of the rows alone. -/
def OkP (p : Par) (now : Int) (P : List Row) : Prop :=
  p.ok ∧ 0 ≤ now ∧ now ≤ 1099511627776 ∧ (P.length : Int) ≤ p.most ∧ (∀ r ∈ P, r.1.ok) ∧ P.Pairwise (fun r s => ¬ r.is s.1.c s.1.n) ∧ P.Pairwise (fun r s => r.2 ≠ s.2)
def LimB (w : World) (g mb : Nat) (A : Option Addr) (cc : Nat) (p : Par) (now : Int) (P : List Row) : Prop :=
  Blk w g 27 #[.int .i64 p.most, .int .i64 p.limit, .int .i64 p.window, .int .i64 p.slip, .int .i64 now, .map (some mb), .slice A P.length cc] ∧
  MapF Try.prog w 46 mb (tabR P) P.length ∧ OwnG isOne w 0 46 2 A P.length cc (cellsR P) ∧
  (∀ r ∈ P, Blk w r.2 50 #[.int .i64 r.1.b, .int .i64 r.1.k]) ∧ OkP p now P
/-- The limiter's own blocks. -/
def ownsR (g mb : Nat) (A : Option Addr) (P : List Row) (k : Nat) : Prop := k = g ∨ k = mb ∨ blk A = some k ∨ ∃ r ∈ P, r.2 = k

theorem shy_mapF {U : Nat → Prop} {w w' : World} {k : TypeId} {b s : Nat} {f : Lit → Option Value} (hs : Shy U w w') (h : MapF Try.prog w k b f s) (hb : ¬ U b) : MapF Try.prog w' k b f s := by
  obtain ⟨D, ⟨es, clock, hb', r1⟩, r2⟩ := h
  exact ⟨D, ⟨es, clock, (hs.block b (Array.getElem?_eq_some_iff.1 hb').1 hb).trans hb', r1⟩, r2⟩
theorem LimB.shy {U : Nat → Prop} {w w' : World} {g mb : Nat} {A : Option Addr} {cc : Nat} {p : Par} {now : Int} {P : List Row} (h : LimB w g mb A cc p now P) (hs : Shy U w w') (hU : ∀ k, ownsR g mb A P k → ¬ U k) : LimB w' g mb A cc p now P := by
  obtain ⟨h1, h2, h3, h4, h5⟩ := h
  exact ⟨(hs.block _ h1.lt (hU _ (.inl rfl))).trans h1, shy_mapF hs h2 (hU _ (.inr (.inl rfl))), hs.ownG h3 (fun k hk => hU k (.inr (.inr (.inl hk)))), fun r hr => (hs.block _ (h4 r hr).lt (hU _ (.inr (.inr (.inr ⟨r, hr, rfl⟩))))).trans (h4 r hr), h5⟩
theorem LimB.ext {w w' : World} {g mb : Nat} {A : Option Addr} {cc : Nat} {p : Par} {now : Int} {P : List Row} (h : LimB w g mb A cc p now P) (hs : Ext w w') : LimB w' g mb A cc p now P := h.shy (U := fun _ => False) (Shy.of_ext hs) fun _ _ h => h
theorem LimB.lt {w : World} {g mb : Nat} {A : Option Addr} {cc : Nat} {p : Par} {now : Int} {P : List Row} (h : LimB w g mb A cc p now P) (k : Nat) (hk : ownsR g mb A P k) : k < w.heap.size := by
  obtain ⟨h1, h2, h3, h4, h5⟩ := h
  rcases hk with rfl | rfl | hk | ⟨r, hr, rfl⟩
  · exact h1.lt
  · exact h2.lt
  · exact (h3.lt k hk).2
  · exact (h4 r hr).lt
theorem blk_ne {w : World} {g h : Nat} {s t : TypeId} {cs ds : Array Value} (hg : Blk w g s cs) (hh : Blk w h t ds) (ne : s ≠ t) : g ≠ h := by
  rintro rfl
  unfold Blk at hg hh
  rw [hg] at hh
  injection hh with hh
  injection hh with _ h2
  exact ne h2
theorem blk_ne_map {P : Program} {w : World} {g b s : Nat} {t k : TypeId} {cs : Array Value} {f : Lit → Option Value} (hg : Blk w g t cs) (hm : MapF P w k b f s) : g ≠ b := by
  rintro rfl
  obtain ⟨D, ⟨es, clock, hb, _⟩, _⟩ := hm
  unfold Blk at hg
  rw [hg] at hb
  cases hb
theorem blk_ne_own {ok : Value → Prop} {w : World} {base size n c g : Nat} {e t : TypeId} {A : Option Addr} {xs : List Value} {cs : Array Value} (hg : Blk w g t cs) (ho : OwnG ok w base e size A n c xs) (ne : t ≠ e) : blk A ≠ some g := by
  intro hA
  rcases ho with ⟨rfl, _⟩ | ⟨b, full, rfl, _, hb, _⟩
  · cases hA
  · simp at hA
    subst hA
    exact blk_ne hg hb ne rfl
theorem map_ne_own {P : Program} {ok : Value → Prop} {w : World} {base size n c b s : Nat} {e k : TypeId} {A : Option Addr} {xs : List Value} {f : Lit → Option Value} (hm : MapF P w k b f s) (ho : OwnG ok w base e size A n c xs) : blk A ≠ some b := by
  intro hA
  rcases ho with ⟨rfl, _⟩ | ⟨g, full, rfl, _, hg, _⟩
  · cases hA
  · simp at hA
    subst hA
    obtain ⟨D, ⟨es, clock, hb, _⟩, _⟩ := hm
    rw [hg] at hb
    cases hb
section
variable {w : World} {g mb : Nat} {A : Option Addr} {cc : Nat} {p : Par} {now : Int} {P : List Row}
theorem LimB.gm (h : LimB w g mb A cc p now P) : g ≠ mb := blk_ne_map h.1 h.2.1
theorem LimB.gA (h : LimB w g mb A cc p now P) : blk A ≠ some g := blk_ne_own h.1 h.2.2.1 (by decide)
theorem LimB.mA (h : LimB w g mb A cc p now P) : blk A ≠ some mb := map_ne_own h.2.1 h.2.2.1
theorem LimB.gr (h : LimB w g mb A cc p now P) {r : Row} (hr : r ∈ P) : g ≠ r.2 := blk_ne h.1 (h.2.2.2.1 r hr) (by decide)
theorem LimB.mr (h : LimB w g mb A cc p now P) {r : Row} (hr : r ∈ P) : r.2 ≠ mb := blk_ne_map (h.2.2.2.1 r hr) h.2.1
theorem LimB.rA (h : LimB w g mb A cc p now P) {r : Row} (hr : r ∈ P) : blk A ≠ some r.2 := blk_ne_own (h.2.2.2.1 r hr) h.2.2.1 (by decide)
theorem LimB.cells (h : LimB w g mb A cc p now P) : w.cell? ⟨g, 0, none⟩ = some (.int .i64 p.most) ∧ w.cell? ⟨g, 1, none⟩ = some (.int .i64 p.limit) ∧ w.cell? ⟨g, 2, none⟩ = some (.int .i64 p.window) ∧ w.cell? ⟨g, 3, none⟩ = some (.int .i64 p.slip) ∧
    w.cell? ⟨g, 4, none⟩ = some (.int .i64 now) ∧ w.cell? ⟨g, 5, none⟩ = some (.map (some mb)) ∧ w.cell? ⟨g, 6, none⟩ = some (.slice A P.length cc) ∧ ∀ i, w.frozen? ⟨g, i, none⟩ = false :=
  ⟨h.1.cell 0, h.1.cell 1, h.1.cell 2, h.1.cell 3, h.1.cell 4, h.1.cell 5, h.1.cell 6, h.1.frozen⟩
theorem set_shy (b i : Nat) (v : Value) (w : World) : Shy (fun k => k = b) w (w.setCell ⟨b, i, none⟩ v) :=
  ⟨rfl, rfl, rfl, by simp [World.setCell], fun k _ hk => Below.heap_setCell _ _ _ _ (fun e => hk e)⟩
/-- The time is set. -/
theorem LimB.now' (h : LimB w g mb A cc p now P) (t : Int) (ht : 0 ≤ t ∧ t ≤ 1099511627776) : LimB (w.setCell ⟨g, 4, none⟩ (.int .i64 t)) g mb A cc p t P := by
  have hs := set_shy g 4 (.int .i64 t) w
  obtain ⟨h1, h2, h3, h4, h5⟩ := h
  exact ⟨h1.set_ 4 _, shy_mapF hs h2 (fun e => blk_ne_map h1 h2 e.symm), hs.ownG h3 (fun k hk e => blk_ne_own h1 h3 (by decide) (e ▸ hk)), fun r hr => (hs.block _ (h4 r hr).lt (fun e => blk_ne h1 (h4 r hr) (by decide) e.symm)).trans (h4 r hr), ⟨h5.1, ht.1, ht.2, h5.2.2.2⟩⟩
theorem tab_at {P1 P2 : List Row} {r : Row} (hwf : ∀ s ∈ P1 ++ r :: P2, s.1.ok) (hd : (P1 ++ r :: P2).Pairwise (fun r s => ¬ r.is s.1.c s.1.n)) : tabR (P1 ++ r :: P2) (kl r.1.c r.1.n) = some (.pointer (some ⟨r.2, 0, none⟩)) := by
  unfold tabR
  rw [List.find?_append]
  have h1 : P1.find? (hitR (kl r.1.c r.1.n)) = none := by
    rw [List.find?_eq_none]
    intro s hs e
    have e := hitR_iff.1 e
    have := kl_inj (hwf s (by simp [hs])).1 (hwf r (by simp)).1 e
    rw [List.pairwise_append] at hd
    exact hd.2.2 s hs r (by simp) this
  rw [h1, List.find?_cons, hitR_iff.2 rfl]; rfl
theorem tab_no {P : List Row} {c : Int} {n : ByteArray} (hwf : ∀ r ∈ P, r.1.ok) (hk : wfK c n) (hno : ∀ r ∈ P, ¬ r.is c n) : tabR P (kl c n) = none := by
  unfold tabR
  rw [List.find?_eq_none.2]
  · rfl
  · intro s hs e
    have e := hitR_iff.1 e
    exact hno s hs (kl_inj (hwf s hs).1 hk e)
/-- Only begin and count of a row are others: the table is the same. -/
theorem tab_same {P1 P2 : List Row} {r s : Row} (h1 : s.1.c = r.1.c) (h2 : s.1.n = r.1.n) (h3 : s.2 = r.2) : tabR (P1 ++ s :: P2) = tabR (P1 ++ r :: P2) := by
  funext x
  unfold tabR
  have hq : hitR x s = hitR x r := by unfold hitR; rw [h1, h2]
  rw [List.find?_append, List.find?_append, List.find?_cons, List.find?_cons, hq]
  cases P1.find? (hitR x) with
  | some v => rfl
  | none =>
    simp only [Option.none_or]
    cases hitR x r
    · rfl
    · simp [h3]
theorem cells_same {P1 P2 : List Row} {r s : Row} (h1 : s.1.c = r.1.c) (h2 : s.1.n = r.1.n) : cellsR (P1 ++ s :: P2) = cellsR (P1 ++ r :: P2) := by simp [cellsR, h1, h2]
theorem tab_put {P : List Row} {r : Row} (hwf : ∀ r ∈ P, r.1.ok) (hr : r.1.ok) (hno : ∀ s ∈ P, ¬ s.is r.1.c r.1.n) (x : Lit) : tabR (P ++ [r]) x = putF (tabR P) (kl r.1.c r.1.n) (.pointer (some ⟨r.2, 0, none⟩)) x := by
  unfold putF
  by_cases h : x = kl r.1.c r.1.n
  · rw [if_pos h, h]
    have h1 := tab_no hwf hr.1 hno
    unfold tabR at h1 ⊢
    rw [List.find?_append]
    have h2 : P.find? (hitR (kl r.1.c r.1.n)) = none := by simpa using h1
    rw [h2, List.find?_cons, hitR_iff.2 rfl]; rfl
  · rw [if_neg h]
    unfold tabR
    rw [List.find?_append]
    have h2 : [r].find? (hitR x) = none := by rw [List.find?_cons, hitR_no (Ne.symm h)]; rfl
    rw [h2]; simp
/-- A row's begin and count are set. -/
theorem LimB.turn {P1 P2 : List Row} {r : Row} (h : LimB w g mb A cc p now (P1 ++ r :: P2)) (b k : Int) (hb : 0 ≤ b ∧ b ≤ 1099511627776) (hk : 0 ≤ k ∧ k ≤ 1073741824) {w' : World} (hs : Shy (fun k => k = r.2) w w') (hw : Blk w' r.2 50 #[.int .i64 b, .int .i64 k]) :
    LimB w' g mb A cc p now (P1 ++ (⟨r.1.c, r.1.n, b, k⟩, r.2) :: P2) := by
  have hr : r ∈ P1 ++ r :: P2 := by simp
  have e1 := h.gr hr; have e2 := h.mr hr; have e3 := h.rA hr
  obtain ⟨h1, h2, h3, h4, h5⟩ := h
  obtain ⟨o1, o2, o3, o4, o5, o6, o7⟩ := h5
  have hlen : (P1 ++ ((⟨r.1.c, r.1.n, b, k⟩, r.2) : Row) :: P2).length = (P1 ++ r :: P2).length := by simp
  refine ⟨by rw [hlen]; exact (hs.block _ h1.lt e1).trans h1, by rw [hlen, tab_same (P1 := P1) (P2 := P2) (r := r) (s := (⟨r.1.c, r.1.n, b, k⟩, r.2)) rfl rfl rfl]; exact shy_mapF hs h2 (Ne.symm e2), by rw [hlen, cells_same (P1 := P1) (P2 := P2) (r := r) (s := (⟨r.1.c, r.1.n, b, k⟩, r.2)) rfl rfl]; exact hs.ownG h3 (fun j hj e => e3 (e ▸ hj)), ?_, o1, o2, o3, by rw [hlen]; exact o4, ?_, ?_, ?_⟩
  · intro s hs'
    rw [List.mem_append, List.mem_cons] at hs'
    have hsep : ∀ s, s ∈ P1 ∨ s ∈ P2 → s.2 ≠ r.2 := by
      rw [List.pairwise_append, List.pairwise_cons] at o7
      intro s hs
      rcases hs with hs | hs
      · exact o7.2.2 s hs r (by simp)
      · exact Ne.symm (o7.2.1.1 s hs)
    rcases hs' with hs' | rfl | hs'
    · exact (hs.block _ (h4 s (by simp [hs'])).lt (hsep s (.inl hs'))).trans (h4 s (by simp [hs']))
    · exact hw
    · exact (hs.block _ (h4 s (by simp [hs'])).lt (hsep s (.inr hs'))).trans (h4 s (by simp [hs']))
  · intro s hs'
    rw [List.mem_append, List.mem_cons] at hs'
    rcases hs' with hs' | rfl | hs'
    · exact o5 s (by simp [hs'])
    · exact ⟨(o5 r hr).1, hb.1, hb.2, hk.1, hk.2⟩
    · exact o5 s (by simp [hs'])
  · rw [List.pairwise_append, List.pairwise_cons] at o6 ⊢
    refine ⟨o6.1, ⟨fun s hs => o6.2.1.1 s hs, o6.2.1.2⟩, fun s hs t ht => ?_⟩
    rcases List.mem_cons.1 ht with rfl | ht
    · exact o6.2.2 s hs r (by simp)
    · exact o6.2.2 s hs t (by simp [ht])
  · rw [List.pairwise_append, List.pairwise_cons] at o7 ⊢
    refine ⟨o7.1, ⟨fun s hs => o7.2.1.1 s hs, o7.2.1.2⟩, fun s hs t ht => ?_⟩
    rcases List.mem_cons.1 ht with rfl | ht
    · exact o7.2.2 s hs r (by simp)
    · exact o7.2.2 s hs t (by simp [ht])
end
end Go.Proofs.Ytnoepnbgnlolbaa

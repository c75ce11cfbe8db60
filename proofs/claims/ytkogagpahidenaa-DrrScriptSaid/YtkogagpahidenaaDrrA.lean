/- Layer 21: the scheduler in memory. -/
import Derived.Test.YtkogagpahidenaaChnB
import Derived.Test.YtkogagpahidenaaKitO
import Derived.Test.YtkogagpahidenaaDrrS
import Derived.Test.YtkogagpahidenaaKStep
namespace Go.Proofs.Ytkogagpahidenaa
open Go.BK Go.BK.DR Go.RowKit Go.Maps
set_option linter.unusedVariables false

/-- A client that is queued: its element, its own block, its items. -/
structure Row where
  cl : Cl
  e : Nat
  c : Nat
  A : Option Addr
  cc : Nat
def cellsI (L : List (Int × Int)) : List Value := L.flatMap fun x => [.int .i64 x.1, .int .i64 x.2]
def isOne (v : Value) : Prop := v.oneCell' = true
def eltR (r : Row) : Elt := (r.e, .iface 60 (pt r.c))
def wfI (n : Int) : Prop := -9223372036854775808 ≤ n ∧ n ≤ 9223372036854775807
open Classical in
noncomputable def hitQ (x : Lit) (r : Row) : Bool := decide (x = .int .i64 r.cl.n)
theorem hitQ_iff {x : Lit} {r : Row} : hitQ x r = true ↔ x = .int .i64 r.cl.n := by unfold hitQ; simp
noncomputable def tabQ (R : List Row) : Lit → Option Value := fun x => (R.find? (hitQ x)).map fun r => pt r.e
def difN (R : List Row) : Prop := R.Pairwise fun r s => r.cl.n ≠ s.cl.n
def difC (R : List Row) : Prop := R.Pairwise fun r s => r.c ≠ s.c
def difA (R : List Row) : Prop := R.Pairwise fun r s => blk r.A ≠ blk s.A
theorem tab_iff {R : List Row} (hd : difN R) {x : Lit} {v : Value} : tabQ R x = some v ↔ ∃ r ∈ R, x = .int .i64 r.cl.n ∧ v = pt r.e := by
  unfold tabQ
  induction R with
  | nil => simp
  | cons r R ih =>
    unfold difN at hd ih
    rw [List.pairwise_cons] at hd
    have ih := ih hd.2
    rw [List.find?_cons]
    cases hh : hitQ x r
    · simp only [ih]
      constructor
      · rintro ⟨s, hs, h⟩; exact ⟨s, by simp [hs], h⟩
      · rintro ⟨s, hs, h1, h2⟩
        rcases List.mem_cons.1 hs with rfl | hs
        · rw [hitQ_iff.2 h1] at hh; cases hh
        · exact ⟨s, hs, h1, h2⟩
    · have hx := hitQ_iff.1 hh
      simp only [Option.map_some, Option.some.injEq]
      constructor
      · rintro rfl; exact ⟨r, by simp, hx, rfl⟩
      · rintro ⟨s, hs, h1, h2⟩
        rcases List.mem_cons.1 hs with rfl | hs
        · exact h2.symm
        · rw [hx] at h1
          injection h1 with _ h1
          exact absurd h1 (hd.1 s hs)
theorem tab_at {R : List Row} (hd : difN R) {r : Row} (hr : r ∈ R) : tabQ R (.int .i64 r.cl.n) = some (pt r.e) := (tab_iff hd).2 ⟨r, hr, rfl, rfl⟩
theorem tab_no {R : List Row} (hd : difN R) {n : Int} (h : ∀ r ∈ R, r.cl.n ≠ n) : tabQ R (.int .i64 n) = none := by
  rcases ht : tabQ R (.int .i64 n) with _ | v
  · rfl
  · obtain ⟨r, hr, h1, _⟩ := (tab_iff hd).1 ht
    injection h1 with _ h1
    exact absurd h1.symm (h r hr)
theorem tab_same {R S : List Row} (hd : difN R) (hs : difN S) (h : ∀ n e : Int, ∀ k : Nat, (∃ r ∈ R, r.cl.n = n ∧ r.e = k) ↔ (∃ r ∈ S, r.cl.n = n ∧ r.e = k)) (x : Lit) : tabQ R x = tabQ S x := by
  apply Option.ext
  intro v
  rw [tab_iff hd, tab_iff hs]
  constructor
  · rintro ⟨r, hr, h1, h2⟩
    obtain ⟨s, hs1, hs2, hs3⟩ := (h r.cl.n 0 r.e).1 ⟨r, hr, rfl, rfl⟩
    exact ⟨s, hs1, by rw [hs2]; exact h1, by rw [hs3]; exact h2⟩
  · rintro ⟨r, hr, h1, h2⟩
    obtain ⟨s, hs1, hs2, hs3⟩ := (h r.cl.n 0 r.e).2 ⟨r, hr, rfl, rfl⟩
    exact ⟨s, hs1, by rw [hs2]; exact h1, by rw [hs3]; exact h2⟩
theorem tab_put {R : List Row} {r : Row} (hd : difN (R ++ [r])) (x : Lit) : tabQ (R ++ [r]) x = putF (tabQ R) (.int .i64 r.cl.n) (pt r.e) x := by
  have hR : difN R := by unfold difN at hd ⊢; rw [List.pairwise_append] at hd; exact hd.1
  unfold putF
  by_cases h : x = .int .i64 r.cl.n
  · rw [if_pos h, h]; exact tab_at hd (by simp)
  · rw [if_neg h]
    apply Option.ext
    intro v
    rw [tab_iff hd, tab_iff hR]
    constructor
    · rintro ⟨s, hs, h1, h2⟩
      rcases List.mem_append.1 hs with hs | hs
      · exact ⟨s, hs, h1, h2⟩
      · simp at hs; subst hs; exact absurd h1 h
    · rintro ⟨s, hs, h1, h2⟩; exact ⟨s, by simp [hs], h1, h2⟩
theorem tab_del {R1 R2 : List Row} {r : Row} (hd : difN (R1 ++ r :: R2)) (x : Lit) : tabQ (R1 ++ R2) x = delF (tabQ (R1 ++ r :: R2)) (.int .i64 r.cl.n) x := by
  have hd' := hd
  unfold difN at hd'
  rw [List.pairwise_append, List.pairwise_cons] at hd'
  obtain ⟨d1, ⟨d2, d3⟩, d4⟩ := hd'
  have hR : difN (R1 ++ R2) := by unfold difN; rw [List.pairwise_append]; exact ⟨d1, d3, fun a ha b hb => d4 a ha b (by simp [hb])⟩
  unfold delF
  by_cases h : x = .int .i64 r.cl.n
  · rw [if_pos h, h]
    refine tab_no hR fun s hs => ?_
    rcases List.mem_append.1 hs with hs | hs
    · exact d4 s hs r (by simp)
    · exact (d2 s hs).symm
  · rw [if_neg h]
    apply Option.ext
    intro v
    rw [tab_iff hd, tab_iff hR]
    constructor
    · rintro ⟨s, hs, h1, h2⟩
      refine ⟨s, ?_, h1, h2⟩
      simp at hs ⊢
      rcases hs with hs | hs
      · exact .inl hs
      · exact .inr (.inr hs)
    · rintro ⟨s, hs, h1, h2⟩
      rw [List.mem_append, List.mem_cons] at hs
      rcases hs with hs | rfl | hs
      · exact ⟨s, by simp [hs], h1, h2⟩
      · exact absurd h1 h
      · exact ⟨s, by simp [hs], h1, h2⟩

/-- The scheduler in memory; nothing is asked of its numbers yet. -/
structure QR (w : World) (g lb mb : Nat) (p : Par) (R : List Row) (t : Bool) (n : Int) : Prop where
  top : Blk w g 52 #[.int .i64 p.clients, .int .i64 p.items, .int .i64 p.quantum, .int .i64 p.most, pt lb, .map (some mb), .bool t, .int .i64 n]
  ring : RingB w lb (R.map eltR)
  map : MapF Try.prog w 3 mb (tabQ R) R.length
  cl : ∀ r ∈ R, Blk w r.c 63 #[.int .i64 r.cl.n, .int .i64 r.cl.cr, .slice r.A r.cl.L.length r.cc]
  own : ∀ r ∈ R, OwnO isOne w 66 2 r.A r.cl.L.length r.cc (cellsI r.cl.L)
  wf : ∀ r ∈ R, wfI r.cl.n
  dn : difN R
  dc : difC R
  da : difA R
/-- The scheduler's own blocks. -/
def ownsQ (g lb mb : Nat) (R : List Row) (k : Nat) : Prop := k = g ∨ k = lb ∨ k = mb ∨ ∃ r ∈ R, k = r.e ∨ k = r.c ∨ blk r.A = some k

theorem shy_mapF {U : Nat → Prop} {w w' : World} {k : TypeId} {b s : Nat} {f : Lit → Option Value} (hs : Shy U w w') (h : MapF Try.prog w k b f s) (hb : ¬ U b) : MapF Try.prog w' k b f s := by
  obtain ⟨D, ⟨es, clock, hb', r1⟩, r2⟩ := h
  exact ⟨D, ⟨es, clock, (hs.block b (Array.getElem?_eq_some_iff.1 hb').1 hb).trans hb', r1⟩, r2⟩
theorem blk_ne_map {P : Program} {w : World} {g b s : Nat} {t k : TypeId} {cs : Array Value} {f : Lit → Option Value} (hg : Blk w g t cs) (hm : MapF P w k b f s) : g ≠ b := by
  rintro rfl
  obtain ⟨D, ⟨es, clock, hb, _⟩, _⟩ := hm
  unfold Blk at hg
  rw [hg] at hb
  cases hb
theorem map_ne_o {P : Program} {ok : Value → Prop} {w : World} {size n c b s : Nat} {e k : TypeId} {A : Option Addr} {xs : List Value} {f : Lit → Option Value} (hm : MapF P w k b f s) (ho : OwnO ok w e size A n c xs) : blk A ≠ some b := by
  intro hA
  rcases ho with ⟨rfl, _⟩ | ⟨g, o, full, rfl, hg, _⟩
  · cases hA
  · simp at hA
    subst hA
    obtain ⟨D, ⟨es, clock, hb, _⟩, _⟩ := hm
    rw [hg] at hb
    cases hb
theorem mem_elt {R : List Row} {k : Nat} (h : k ∈ (R.map eltR).map Prod.fst) : ∃ r ∈ R, k = r.e := by
  simp only [List.map_map, List.mem_map] at h
  obtain ⟨r, hr, h⟩ := h
  exact ⟨r, hr, h.symm⟩
section
variable {w w' : World} {g lb mb : Nat} {p : Par} {R R1 R2 : List Row} {r : Row} {t : Bool} {n : Int}
theorem QR.elt (h : QR w g lb mb p R t n) {r : Row} (hr : r ∈ R) : ∃ a b, Blk w r.e 79 #[(eltR r).2, a, b, pt lb] := h.ring.2.1.blk (eltR r) (List.mem_map_of_mem hr)
theorem QR.shy {U : Nat → Prop} (h : QR w g lb mb p R t n) (hs : Shy U w w') (hU : ∀ k, ownsQ g lb mb R k → ¬ U k) : QR w' g lb mb p R t n where
  top := h.top.shy hs (hU _ (.inl rfl))
  ring := h.ring.shy hs (hU _ (.inr (.inl rfl))) fun x hx => by
    obtain ⟨r, hr, rfl⟩ := List.mem_map.1 hx
    exact hU _ (.inr (.inr (.inr ⟨r, hr, .inl rfl⟩)))
  map := shy_mapF hs h.map (hU _ (.inr (.inr (.inl rfl))))
  cl := fun r hr => (h.cl r hr).shy hs (hU _ (.inr (.inr (.inr ⟨r, hr, .inr (.inl rfl)⟩))))
  own := fun r hr => OwnO.shy hs (h.own r hr) fun k hk => hU _ (.inr (.inr (.inr ⟨r, hr, .inr (.inr hk)⟩)))
  wf := h.wf
  dn := h.dn
  dc := h.dc
  da := h.da
theorem QR.ext (h : QR w g lb mb p R t n) (hs : Ext w w') : QR w' g lb mb p R t n := h.shy (U := fun _ => False) (Shy.of_ext hs) fun _ _ => id
theorem QR.lt (h : QR w g lb mb p R t n) (k : Nat) (hk : ownsQ g lb mb R k) : k < w.heap.size := by
  rcases hk with rfl | rfl | rfl | ⟨r, hr, rfl | rfl | hk⟩
  · exact h.top.lt
  · exact h.ring.1.lt
  · exact h.map.lt
  · obtain ⟨a, b, hb⟩ := h.elt hr; exact hb.lt
  · exact (h.cl r hr).lt
  · exact (h.own r hr).lt k hk
/-- No two of its blocks are one. -/
theorem QR.g_other (h : QR w g lb mb p R t n) : g ≠ lb ∧ g ≠ mb ∧ ∀ r ∈ R, g ≠ r.e ∧ g ≠ r.c ∧ blk r.A ≠ some g := by
  refine ⟨blk_ne h.top h.ring.1 (by decide), blk_ne_map h.top h.map, fun r hr => ?_⟩
  obtain ⟨a, b, hb⟩ := h.elt hr
  exact ⟨blk_ne h.top hb (by decide), blk_ne h.top (h.cl r hr) (by decide), (h.own r hr).blk_ne h.top (by decide)⟩
theorem QR.lb_other (h : QR w g lb mb p R t n) : lb ≠ mb ∧ ∀ r ∈ R, lb ≠ r.e ∧ lb ≠ r.c ∧ blk r.A ≠ some lb := by
  refine ⟨blk_ne_map h.ring.1 h.map, fun r hr => ?_⟩
  obtain ⟨a, b, hb⟩ := h.elt hr
  exact ⟨blk_ne h.ring.1 hb (by decide), blk_ne h.ring.1 (h.cl r hr) (by decide), (h.own r hr).blk_ne h.ring.1 (by decide)⟩
theorem QR.mb_other (h : QR w g lb mb p R t n) : ∀ r ∈ R, r.e ≠ mb ∧ r.c ≠ mb ∧ blk r.A ≠ some mb := by
  intro r hr
  obtain ⟨a, b, hb⟩ := h.elt hr
  exact ⟨blk_ne_map hb h.map, blk_ne_map (h.cl r hr) h.map, map_ne_o h.map (h.own r hr)⟩
theorem QR.row_other (h : QR w g lb mb p R t n) {r s : Row} (hr : r ∈ R) (hs : s ∈ R) : s.e ≠ r.c ∧ blk r.A ≠ some s.e ∧ blk r.A ≠ some s.c := by
  obtain ⟨a, b, hb⟩ := h.elt hs
  exact ⟨blk_ne hb (h.cl r hr) (by decide), (h.own r hr).blk_ne hb (by decide), (h.own r hr).blk_ne (h.cl s hs) (by decide)⟩
/-- The turn's flag, the number of items. -/
theorem QR.set_top (h : QR w g lb mb p R t n) (hs : Shy (fun k => k = g) w w') (t' : Bool) (n' : Int)
    (hw : Blk w' g 52 #[.int .i64 p.clients, .int .i64 p.items, .int .i64 p.quantum, .int .i64 p.most, pt lb, .map (some mb), .bool t', .int .i64 n']) : QR w' g lb mb p R t' n' := by
  obtain ⟨o1, o2, o3⟩ := h.g_other
  exact { top := hw
          ring := h.ring.shy hs (Ne.symm o1) fun x hx => by
            obtain ⟨r, hr, rfl⟩ := List.mem_map.1 hx
            exact (o3 r hr).1.symm
          map := shy_mapF hs h.map (Ne.symm o2)
          cl := fun r hr => (h.cl r hr).shy hs (o3 r hr).2.1.symm
          own := fun r hr => OwnO.shy hs (h.own r hr) fun k hk e => (o3 r hr).2.2 (e ▸ hk)
          wf := h.wf, dn := h.dn, dc := h.dc, da := h.da }
theorem QR.set_t (h : QR w g lb mb p R t n) (t' : Bool) : QR (w.setCell ⟨g, 6, none⟩ (.bool t')) g lb mb p R t' n := h.set_top (set_shy g 6 _ w) t' n (h.top.set_ 6 _)
theorem QR.set_n (h : QR w g lb mb p R t n) (n' : Int) : QR (w.setCell ⟨g, 7, none⟩ (.int .i64 n')) g lb mb p R t n' := h.set_top (set_shy g 7 _ w) t n' (h.top.set_ 7 _)
theorem split_dif {P : Row → Row → Prop} (hsym : ∀ a b, P a b → P b a) {R1 R2 : List Row} {r : Row} (h : (R1 ++ r :: R2).Pairwise P) : (R1 ++ R2).Pairwise P ∧ ∀ s ∈ R1 ++ R2, P s r := by
  rw [List.pairwise_append, List.pairwise_cons] at h
  obtain ⟨d1, ⟨d2, d3⟩, d4⟩ := h
  refine ⟨List.pairwise_append.2 ⟨d1, d3, fun a ha b hb => d4 a ha b (by simp [hb])⟩, fun s hs => ?_⟩
  rcases List.mem_append.1 hs with hs | hs
  · exact d4 s hs r (by simp)
  · exact hsym _ _ (d2 s hs)
theorem join_dif {P : Row → Row → Prop} (hsym : ∀ a b, P a b → P b a) {R1 R2 : List Row} {r : Row} (h : (R1 ++ R2).Pairwise P) (hr : ∀ s ∈ R1 ++ R2, P s r) : (R1 ++ r :: R2).Pairwise P := by
  rw [List.pairwise_append] at h
  obtain ⟨d1, d2, d3⟩ := h
  rw [List.pairwise_append, List.pairwise_cons]
  refine ⟨d1, ⟨fun s hs => hsym _ _ (hr s (by simp [hs])), d2⟩, fun a ha b hb => ?_⟩
  rcases List.mem_cons.1 hb with rfl | hb
  · exact hr a (by simp [ha])
  · exact d3 a ha b hb
theorem symN : ∀ a b : Row, a.cl.n ≠ b.cl.n → b.cl.n ≠ a.cl.n := fun _ _ h => h.symm
theorem symC : ∀ a b : Row, a.c ≠ b.c → b.c ≠ a.c := fun _ _ h => h.symm
theorem symA : ∀ a b : Row, blk a.A ≠ blk b.A → blk b.A ≠ blk a.A := fun _ _ h => h.symm
theorem mem_mid {s r : Row} : s ∈ R1 ++ r :: R2 ↔ s = r ∨ s ∈ R1 ++ R2 := by
  simp only [List.mem_append, List.mem_cons]
  constructor
  · rintro (h | h | h)
    · exact .inr (.inl h)
    · exact .inl h
    · exact .inr (.inr h)
  · rintro (h | h | h)
    · exact .inr (.inl h)
    · exact .inl h
    · exact .inr (.inr h)
/-- A client's credit and items are others. -/
theorem QR.row (h : QR w g lb mb p (R1 ++ r :: R2) t n) (cr' : Int) (L' : List (Int × Int)) (A' : Option Addr) (cc' : Nat) (hs : Shy (fun k => k = r.c ∨ blk r.A = some k) w w')
    (hw : Blk w' r.c 63 #[.int .i64 r.cl.n, .int .i64 cr', .slice A' L'.length cc']) (ho : OwnO isOne w' 66 2 A' L'.length cc' (cellsI L'))
    (hA : blk A' = blk r.A ∨ ∃ b, blk A' = some b ∧ w.heap.size ≤ b) : QR w' g lb mb p (R1 ++ ⟨⟨r.cl.n, cr', L'⟩, r.e, r.c, A', cc'⟩ :: R2) t n := by
  obtain ⟨o1, o2, o3⟩ := h.g_other
  obtain ⟨l1, l2⟩ := h.lb_other
  have m1 := h.mb_other
  have hr : r ∈ R1 ++ r :: R2 := by simp
  have hin : ∀ s ∈ R1 ++ R2, s ∈ R1 ++ r :: R2 := fun s hs => mem_mid.2 (.inr hs)
  obtain ⟨n1, n2⟩ := split_dif symN h.dn
  obtain ⟨c1, c2⟩ := split_dif symC h.dc
  obtain ⟨a1, a2⟩ := split_dif symA h.da
  have hdn : difN (R1 ++ ⟨⟨r.cl.n, cr', L'⟩, r.e, r.c, A', cc'⟩ :: R2) := join_dif symN n1 n2
  exact { top := h.top.shy hs fun e => by
            rcases e with e | e
            · exact (o3 r hr).2.1 e
            · exact (o3 r hr).2.2 e
          ring := by
            have e : (R1 ++ (⟨⟨r.cl.n, cr', L'⟩, r.e, r.c, A', cc'⟩ : Row) :: R2).map eltR = (R1 ++ r :: R2).map eltR := by simp [eltR]
            rw [e]
            refine h.ring.shy hs (fun e => ?_) fun x hx e => ?_
            · rcases e with e | e
              · exact (l2 r hr).2.1 e
              · exact (l2 r hr).2.2 e
            · obtain ⟨s, hs', rfl⟩ := List.mem_map.1 hx
              obtain ⟨x1, x2, x3⟩ := h.row_other hr hs'
              rcases e with e | e
              · exact x1 e
              · exact x2 e
          map := by
            have hm := shy_mapF hs h.map (fun e => by
              rcases e with e | e
              · exact (m1 r hr).2.1 e.symm
              · exact (m1 r hr).2.2 e)
            have e : (R1 ++ (⟨⟨r.cl.n, cr', L'⟩, r.e, r.c, A', cc'⟩ : Row) :: R2).length = (R1 ++ r :: R2).length := by simp
            rw [e]
            refine hm.congr fun x => tab_same hdn h.dn (fun m _ k => ?_) x
            constructor
            · rintro ⟨s, hs', h1, h2⟩
              rcases mem_mid.1 hs' with rfl | hs'
              · exact ⟨r, hr, h1, h2⟩
              · exact ⟨s, hin s hs', h1, h2⟩
            · rintro ⟨s, hs', h1, h2⟩
              rcases mem_mid.1 hs' with rfl | hs'
              · exact ⟨_, mem_mid.2 (.inl rfl), h1, h2⟩
              · exact ⟨s, mem_mid.2 (.inr hs'), h1, h2⟩
          cl := fun s hs' => by
            rcases mem_mid.1 hs' with rfl | hs'
            · exact hw
            · refine (h.cl s (hin s hs')).shy hs fun e => ?_
              rcases e with e | e
              · exact c2 s hs' e
              · exact (h.row_other hr (hin s hs')).2.2 e
          own := fun s hs' => by
            rcases mem_mid.1 hs' with rfl | hs'
            · exact ho
            · refine OwnO.shy hs (h.own s (hin s hs')) fun k hk e => ?_
              rcases e with e | e
              · exact (h.row_other (hin s hs') hr).2.2 (e ▸ hk)
              · exact a2 s hs' (hk.trans e.symm)
          wf := fun s hs' => by
            rcases mem_mid.1 hs' with rfl | hs'
            · exact h.wf r hr
            · exact h.wf s (hin s hs')
          dn := hdn
          dc := join_dif symC c1 c2
          da := join_dif symA a1 fun s hs' e => by
            simp only at e
            rcases hA with hA | ⟨b, hA, hb⟩
            · exact a2 s hs' (e.trans hA)
            · have := (h.own s (hin s hs')).lt b (e.trans hA)
              omega }
/-- The first one goes behind all others. -/
theorem QR.rot (h : QR w g lb mb p (r :: R2) t n) (hs : Shy (fun k => k = lb ∨ k ∈ ((r :: R2).map eltR).map Prod.fst) w w') (hring : RingB w' lb (R2.map eltR ++ [eltR r])) : QR w' g lb mb p (R2 ++ [r]) t n := by
  obtain ⟨o1, o2, o3⟩ := h.g_other
  obtain ⟨l1, l2⟩ := h.lb_other
  have m1 := h.mb_other
  have hin : ∀ s ∈ R2 ++ [r], s ∈ r :: R2 := fun s hs => by simp at hs ⊢; exact hs.symm
  obtain ⟨n1, n2⟩ := split_dif (R1 := []) symN h.dn
  obtain ⟨c1, c2⟩ := split_dif (R1 := []) symC h.dc
  obtain ⟨a1, a2⟩ := split_dif (R1 := []) symA h.da
  simp only [List.nil_append] at n1 n2 c1 c2 a1 a2
  have hdn : difN (R2 ++ [r]) := join_dif (R1 := R2) (R2 := []) symN (by simpa using n1) (by simpa using n2)
  exact { top := h.top.shy hs fun e => by
            rcases e with e | e
            · exact o1 e
            · obtain ⟨s, hs', e⟩ := mem_elt e; exact (o3 s hs').1 e
          ring := by simpa using hring
          map := by
            have hm := shy_mapF hs h.map (fun e => by
              rcases e with e | e
              · exact l1 e.symm
              · obtain ⟨s, hs', e⟩ := mem_elt e; exact (m1 s hs').1 e.symm)
            have e : (R2 ++ [r]).length = (r :: R2).length := by simp
            rw [e]
            refine hm.congr fun x => tab_same hdn h.dn (fun m _ k => ?_) x
            constructor
            · rintro ⟨s, hs', h1⟩; exact ⟨s, hin s hs', h1⟩
            · rintro ⟨s, hs', h1⟩; exact ⟨s, by simp at hs' ⊢; exact hs'.symm, h1⟩
          cl := fun s hs' => (h.cl s (hin s hs')).shy hs fun e => by
            rcases e with e | e
            · exact (l2 s (hin s hs')).2.1 e.symm
            · obtain ⟨q, hq, e⟩ := mem_elt e; exact (h.row_other (hin s hs') hq).1 e.symm
          own := fun s hs' => OwnO.shy hs (h.own s (hin s hs')) fun k hk e => by
            rcases e with e | e
            · exact (l2 s (hin s hs')).2.2 (e ▸ hk)
            · obtain ⟨q, hq, e⟩ := mem_elt e; exact (h.row_other (hin s hs') hq).2.1 (e ▸ hk)
          wf := fun s hs' => h.wf s (hin s hs')
          dn := hdn
          dc := join_dif (R1 := R2) (R2 := []) symC (by simpa using c1) (by simpa using c2)
          da := join_dif (R1 := R2) (R2 := []) symA (by simpa using a1) (by simpa using a2) }
/-- A client leaves: the map has turned, then the ring. -/
theorem QR.out {w1 : World} (h : QR w g lb mb p (R1 ++ r :: R2) t n) (hs1 : Shy (fun k => k = mb) w w1) (hmap : MapF Try.prog w1 3 mb (delF (tabQ (R1 ++ r :: R2)) (.int .i64 r.cl.n)) ((R1 ++ r :: R2).length - 1))
    (hs : Shy (fun k => k = lb ∨ k ∈ ((R1 ++ r :: R2).map eltR).map Prod.fst) w1 w') (hring : RingB w' lb (R1.map eltR ++ R2.map eltR)) : QR w' g lb mb p (R1 ++ R2) t n := by
  obtain ⟨o1, o2, o3⟩ := h.g_other
  obtain ⟨l1, l2⟩ := h.lb_other
  have m1 := h.mb_other
  have hin : ∀ s ∈ R1 ++ R2, s ∈ R1 ++ r :: R2 := fun s hs => mem_mid.2 (.inr hs)
  obtain ⟨n1, n2⟩ := split_dif symN h.dn
  obtain ⟨c1, c2⟩ := split_dif symC h.dc
  obtain ⟨a1, a2⟩ := split_dif symA h.da
  exact { top := (h.top.shy hs1 o2).shy hs fun e => by
            rcases e with e | e
            · exact o1 e
            · obtain ⟨s, hs', e⟩ := mem_elt e; exact (o3 s hs').1 e
          ring := by simpa using hring
          map := by
            have hm := shy_mapF hs hmap (fun e => by
              rcases e with e | e
              · exact l1 e.symm
              · obtain ⟨s, hs', e⟩ := mem_elt e; exact (m1 s hs').1 e.symm)
            have e : (R1 ++ R2).length = (R1 ++ r :: R2).length - 1 := by simp
            rw [e]
            exact hm.congr fun x => tab_del h.dn x
          cl := fun s hs' => ((h.cl s (hin s hs')).shy hs1 (m1 s (hin s hs')).2.1).shy hs fun e => by
            rcases e with e | e
            · exact (l2 s (hin s hs')).2.1 e.symm
            · obtain ⟨q, hq, e⟩ := mem_elt e; exact (h.row_other (hin s hs') hq).1 e.symm
          own := fun s hs' => OwnO.shy hs (OwnO.shy hs1 (h.own s (hin s hs')) fun k hk e => (m1 s (hin s hs')).2.2 (e ▸ hk)) fun k hk e => by
            rcases e with e | e
            · exact (l2 s (hin s hs')).2.2 (e ▸ hk)
            · obtain ⟨q, hq, e⟩ := mem_elt e; exact (h.row_other (hin s hs') hq).2.1 (e ▸ hk)
          wf := fun s hs' => h.wf s (hin s hs')
          dn := n1
          dc := c1
          da := a1 }
/-- A client comes, without items yet: the ring has turned, then the map. -/
theorem QR.push {w1 : World} {e c : Nat} (h : QR w g lb mb p R t n) (N : Int) (hN : wfI N) (hno : ∀ s ∈ R, s.cl.n ≠ N) (hnil : ∀ s ∈ R, blk s.A ≠ none)
    (hs1 : Shy (fun k => k = lb ∨ k ∈ (R.map eltR).map Prod.fst) w w1) (hring : RingB w1 lb (R.map eltR ++ [(e, .iface 60 (pt c))]))
    (hc : Blk w1 c 63 #[.int .i64 N, .int .i64 0, .slice none 0 0]) (hcn : ¬ ownsQ g lb mb R c)
    (hs : Shy (fun k => k = mb) w1 w') (hmap : MapF Try.prog w' 3 mb (putF (tabQ R) (.int .i64 N) (pt e)) (R.length + 1)) : QR w' g lb mb p (R ++ [⟨⟨N, 0, []⟩, e, c, none, 0⟩]) t n := by
  obtain ⟨o1, o2, o3⟩ := h.g_other
  obtain ⟨l1, l2⟩ := h.lb_other
  have m1 := h.mb_other
  have hdn : difN (R ++ [⟨⟨N, 0, []⟩, e, c, none, 0⟩]) := join_dif (R1 := R) (R2 := []) symN (by rw [List.append_nil]; exact h.dn) (by rw [List.append_nil]; exact hno)
  have hin : ∀ s ∈ R ++ [(⟨⟨N, 0, []⟩, e, c, none, 0⟩ : Row)], s = ⟨⟨N, 0, []⟩, e, c, none, 0⟩ ∨ s ∈ R := fun s hs => by simp at hs; exact hs.symm
  have hlt := h.map.lt
  exact { top := (h.top.shy hs1 fun e => by
            rcases e with e | e
            · exact o1 e
            · obtain ⟨s, hs', e⟩ := mem_elt e; exact (o3 s hs').1 e).shy hs o2
          ring := by
            have hx : ∀ x ∈ R.map eltR ++ [(e, Value.iface 60 (pt c))], ∃ a b, Blk w1 x.1 79 #[x.2, a, b, pt lb] := hring.2.1.blk
            have := hring.shy hs l1 fun x hx' ex => by
              rcases List.mem_append.1 hx' with hx' | hx'
              · obtain ⟨s, hs', rfl⟩ := List.mem_map.1 hx'
                exact (m1 s hs').1 ex
              · simp at hx'
                subst hx'
                obtain ⟨a, b, hb⟩ := hx (e, _) (List.mem_append_right _ (List.mem_singleton.2 rfl))
                have hmb : MapF Try.prog w1 3 mb (tabQ R) R.length := shy_mapF hs1 h.map fun e' => by
                  rcases e' with e' | e'
                  · exact l1 e'.symm
                  · obtain ⟨s, hs', e'⟩ := mem_elt e'; exact (m1 s hs').1 e'.symm
                exact blk_ne_map hb hmb ex
            simpa [eltR] using this
          map := by
            have e1 : (R ++ [(⟨⟨N, 0, []⟩, e, c, none, 0⟩ : Row)]).length = R.length + 1 := by simp
            rw [e1]
            exact hmap.congr fun x => tab_put hdn x
          cl := fun s hs' => by
            rcases hin s hs' with rfl | hs'
            · exact hc.shy hs (fun e' => hcn (.inr (.inr (.inl e'))))
            · refine ((h.cl s hs').shy hs1 fun e => ?_).shy hs (m1 s hs').2.1
              rcases e with e | e
              · exact (l2 s hs').2.1 e.symm
              · obtain ⟨q, hq, e⟩ := mem_elt e; exact (h.row_other hs' hq).1 e.symm
          own := fun s hs' => by
            rcases hin s hs' with rfl | hs'
            · exact OwnO.nil _ _ _ _
            · refine OwnO.shy hs (OwnO.shy hs1 (h.own s hs') fun k hk e => ?_) fun k hk e => (m1 s hs').2.2 (e ▸ hk)
              rcases e with e | e
              · exact (l2 s hs').2.2 (e ▸ hk)
              · obtain ⟨q, hq, e⟩ := mem_elt e; exact (h.row_other hs' hq).2.1 (e ▸ hk)
          wf := fun s hs' => by
            rcases hin s hs' with rfl | hs'
            · exact hN
            · exact h.wf s hs'
          dn := hdn
          dc := join_dif (R1 := R) (R2 := []) symC (by rw [List.append_nil]; exact h.dc) fun s hs' e => by
            exact hcn (.inr (.inr (.inr ⟨s, by simpa using hs', .inr (.inl e.symm)⟩)))
          da := join_dif (R1 := R) (R2 := []) symA (by rw [List.append_nil]; exact h.da) fun s hs' e => hnil s (by simpa using hs') e }
end
end Go.Proofs.Ytkogagpahidenaa

/- Layer 21: the document's Put of a client that is there. -/
import Derived.Test.YtkogagpahidenaaDrrV
import Derived.Test.YtkogagpahidenaaKitE
namespace Go.Proofs.Ytkogagpahidenaa
open Go.BK Go.BK.DR Go.RowKit Go.Maps
set_option linter.unusedVariables false
set_option linter.unusedSimpArgs false
theorem pass3 {G : Prop} {P : Option Addr → Nat → World → Prop} (H : Option Addr → Nat → World → Prop) (key : ∀ a b c, H a b c → P a b c) (main : (∀ a b c, H a b c → P a b c) → G) : G := main key
theorem info_it : (Try.prog.info? 77).map (fun i => (i.zero, i.size, i.bytes)) = some (some (.agg #[.int .i64 0, .int .i64 0]), 2, 16) := by kernel_rfl
theorem own_put {ok : Value → Prop} {w : World} {base size n c k b o : Nat} {e : TypeId} {xs : List Value} {v : Value} (h : OwnG ok w base e size (some ⟨b, o, none⟩) n c xs) (hv : ok v) :
    OwnG ok (w.setCell ⟨b, o + k, none⟩ v) base e size (some ⟨b, o, none⟩) n c (xs.set k v) := by
  rcases h with ⟨h, _⟩ | ⟨g', full, hA, hb, hg, hf, hn, hc, ht, hok⟩
  · cases h
  · injection hA with hA; injection hA with h1 h2; subst h1; subst h2
    refine .inr ⟨b, full.set k v, rfl, hb, ?_, by simp [hf], hn, hc, ?_, ?_⟩
    · simp [World.setCell, Array.getElem?_modify, hg]
    · rw [← ht, List.take_set]
    · intro u hu
      rcases List.mem_or_eq_of_mem_set hu with h | rfl
      · exact hok u h
      · exact hv
theorem own_frozen {ok : Value → Prop} {w : World} {base size n c b o : Nat} {e : TypeId} {xs : List Value} (h : OwnG ok w base e size (some ⟨b, o, none⟩) n c xs) (i : Nat) : w.frozen? ⟨b, i, none⟩ = false := by
  rcases h with ⟨h, _⟩ | ⟨g', full, hA, hb, hg, _⟩
  · cases h
  · injection hA with hA; injection hA with hA; subst hA
    simp [World.frozen?, hg]
theorem own_blk {ok : Value → Prop} {w : World} {base size n c b o : Nat} {e : TypeId} {xs : List Value} (h : OwnG ok w base e size (some ⟨b, o, none⟩) n c xs) : ∃ cs, Blk w b e cs := by
  rcases h with ⟨h, _⟩ | ⟨g', full, hA, hb, hg, _⟩
  · cases h
  · injection hA with hA; injection hA with hA; subst hA
    exact ⟨_, hg⟩
theorem cellsN_put (R1 R2 : List Ln) (r : Ln) (L' : List (Int × Int)) (A' : Option Addr) (cc' : Nat) :
    cellsN (R1 ++ ⟨⟨r.cl.n, r.cl.cr, L'⟩, r.t, A', cc'⟩ :: R2) = (cellsN (R1 ++ r :: R2)).set (R1.length * 4 + 3) (.slice A' L'.length cc') := by
  rw [cellsN_append, cellsN_append, List.set_append_right _ _ (by rw [cellsN_len]; omega), cellsN_len, show R1.length * 4 + 3 - R1.length * 4 = 3 from by omega]
  simp [cellsN]
theorem cellsI_append (L M : List (Int × Int)) : cellsI (L ++ M) = cellsI L ++ cellsI M := by simp [cellsI]
theorem cellsI_one (L : List (Int × Int)) : ∀ u ∈ cellsI L, isOne u := by
  intro u hu
  unfold cellsI at hu
  rw [List.mem_flatMap] at hu
  obtain ⟨r, _, hu⟩ := hu
  simp at hu
  rcases hu with rfl | rfl <;> rfl
/-- A line of the ring has an item more. -/
def ToM (w w' : World) (g : Nat) (p : Par) (A : Option Addr) (c base : Nat) (R1 : List Ln) (r : Ln) (R2 : List Ln) (x : Int × Int) : Prop :=
  ∃ A8 c8, (∀ k, blk A8 = some k → w.heap.size ≤ k) ∧ RfR w' g p A c (R1 ++ ⟨⟨r.cl.n, r.cl.cr, r.cl.L ++ [x]⟩, r.t, A8, c8⟩ :: R2) ∧
    OwnG isOne w' base 75 4 A (R1 ++ ⟨⟨r.cl.n, r.cl.cr, r.cl.L ++ [x]⟩, r.t, A8, c8⟩ :: R2).length c (cellsN (R1 ++ ⟨⟨r.cl.n, r.cl.cr, r.cl.L ++ [x]⟩, r.t, A8, c8⟩ :: R2)) ∧ Shy (fun k => blk A = some k) w w'
section
variable {U : Nat → Prop} {w w' : World} {g c : Nat} {p : Par} {A : Option Addr} {R R1 R2 : List Ln} {r : Ln}
set_option maxHeartbeats 4000000 in
set_option maxRecDepth 100000 in
theorem rput_more {base : Nat} (h : RfR w g p A c (R1 ++ r :: R2)) (ow : OwnG isOne w base 75 4 A (R1 ++ r :: R2).length c (cellsN (R1 ++ r :: R2))) (hno : ∀ s ∈ R1, s.cl.n ≠ r.cl.n) (cost x : Int) (hc : 1 ≤ cost ∧ cost ≤ p.most) (hl : (r.cl.L.length : Int) < p.items) (hp2 : p.items ≤ 64) :
    Calls Try.prog 25 #[.pointer (some ⟨g, 0, none⟩), .int .i64 r.cl.n, .int .i64 cost, .int .i64 x] w fun e w' => e = .returned (.int .i64 0) ∧ ToM w w' g p A c base R1 r R2 (cost, x) := by
  have C1 := within_any cost p.most w
  rw [decide_eq_true hc] at C1
  have C1 := hid C1
  have C2 := rat_yes h hno
  obtain ⟨_, c1, _, c3, c4, cf⟩ := h.cells
  have hn9 := h.ring.n_le
  have H := hid h
  obtain ⟨b, o, rfl, hb, hcc⟩ := h.spot (by simp; omega)
  have OW := hid ow
  have fr := own_frozen ow (o + (R1.length * 4 + 3))
  obtain ⟨_, _, _, x3⟩ := hcc R1.length (by simp)
  rw [getD_mid] at x3
  have its := h.its r (by simp)
  have hl9 := its.rd.n_le
  obtain ⟨A0, hA0⟩ : ∃ A0, r.A = A0 := ⟨_, rfl⟩
  obtain ⟨cc, hcc0⟩ : ∃ cc, r.cc = cc := ⟨_, rfl⟩
  obtain ⟨l, hl0⟩ : ∃ l, r.cl.L.length = l := ⟨_, rfl⟩
  rw [hA0, hcc0, hl0] at x3 its
  rw [hl0] at hl hl9
  obtain ⟨n, hn⟩ : ∃ n, (R1 ++ r :: R2).length = n := ⟨_, rfl⟩
  obtain ⟨m, hm⟩ : ∃ m, R1.length = m := ⟨_, rfl⟩
  have hmn : m < n := by rw [← hn, ← hm]; simp
  rw [hn] at c4 hn9
  rw [hm] at x3 C2 fr
  have i1 : (m : Int) < (n : Int) := by omega
  have C2 := hid C2
  obtain ⟨i0, hi, hz0, hz1, hz2⟩ := info_parts info_it
  have HMN := hid (And.intro hn (And.intro hm (And.intro hA0 (And.intro hcc0 hl0))))
  have ITS := hid its
  have KS := hid (fun (W : World) (X : Ext w W) => (⟨(X.cell (p := ⟨g, 4, none⟩) h.top.lt).trans c4, (X.cell (p := ⟨b, o + m * 4 + 3, none⟩) hb).trans x3, (by have := own_frozen (ow.ext X) (o + m * 4 + 3); exact this)⟩ : W.cell? ⟨g, 4, none⟩ = some (.slice (some ⟨b, o, none⟩) n c) ∧ W.cell? ⟨b, o + m * 4 + 3, none⟩ = some (.slice A0 l cc) ∧ W.frozen? ⟨b, o + m * 4 + 3, none⟩ = false))
  clear h hno hc hcc hn hm ow hA0 hcc0 hl0 its fr
  go_enter Try.func25, Try.ntmps25
  go_wp2_with fail
  refine C1.out.mono ?_
  rintro e _ ⟨rfl, rfl⟩
  go_wp2_with fail
  refine C2.out.mono ?_
  rintro e _ ⟨rfl, rfl⟩
  go_wp2_with fail
  go_quiet (fail)
  generalize hw1 : World.drewN w _ = w1
  have x1 : Ext w w1 := by rw [← hw1]; exact ext_drewN _ _
  have hle1 : w.heap.size ≤ w1.heap.size := x1.size
  have K1 := hid (fun (W : World) (X : Ext w1 W) => KS.out W (ext_trans x1 X))
  obtain ⟨d4, d3, df⟩ := KS.out w1 x1
  have X1 := hid x1
  have HLE := hid hle1
  have IT := hid (fun (W : World) (X : Ext w1 W) => (OwnO.shy (U := fun _ => False) (Shy.of_ext (ext_trans X1.out X)) ITS.out fun _ _ e => e).rd)
  have ea : Ext w1 (w1.alloc (.cells #[] 77)).drew := (ext_trans (ext_alloc _ _) (ext_drew _))
  have eb : Ext w1 (w1.alloc (.cells #[.int .i64 cost, .int .i64 x] 77)).drew := (ext_trans (ext_alloc _ _) (ext_drew _))
  have eab : Ext w1 ((w1.alloc (.cells #[] 77)).alloc (.cells #[.int .i64 cost, .int .i64 x] 77)).drew := ext_trans (ext_alloc _ _) (ext_trans (ext_alloc _ _) (ext_drew _))
  have eba : Ext w1 ((w1.alloc (.cells #[.int .i64 cost, .int .i64 x] 77)).alloc (.cells #[] 77)).drew := ext_trans (ext_alloc _ _) (ext_trans (ext_alloc _ _) (ext_drew _))
  have oa : OwnG isOne (w1.alloc (.cells #[] 77)).drew w1.heap.size 77 2 (some ⟨w1.heap.size, 0, none⟩) 0 0 [] := (own_none w1 _ _ _ (Nat.le_refl _)).ext (ext_drew _)
  have oab : OwnG isOne ((w1.alloc (.cells #[] 77)).alloc (.cells #[.int .i64 cost, .int .i64 x] 77)).drew w1.heap.size 77 2 (some ⟨w1.heap.size, 0, none⟩) 0 0 [] := (own_none w1 _ _ _ (Nat.le_refl _)).ext (ext_trans (ext_alloc _ _) (ext_drew _))
  have oba : OwnG isOne ((w1.alloc (.cells #[.int .i64 cost, .int .i64 x] 77)).alloc (.cells #[] 77)).drew w1.heap.size 77 2 (some ⟨w1.heap.size + 1, 0, none⟩) 0 0 [] := by
    have h1 := (own_none (w1.alloc (.cells #[.int .i64 cost, .int .i64 x] 77)) 77 w1.heap.size 2 (by simp)).ext (ext_drew _)
    simpa using h1
  have rab : RdG ((w1.alloc (.cells #[] 77)).alloc (.cells #[.int .i64 cost, .int .i64 x] 77)).drew 2 (some ⟨w1.heap.size + 1, 0, none⟩) 1 1 [.int .i64 cost, .int .i64 x] := by
    have h1 := (rd_two (w1.alloc (.cells #[] 77)) (.int .i64 cost) (.int .i64 x) 77).ext (ext_drew _)
    simpa using h1
  have rba : RdG ((w1.alloc (.cells #[.int .i64 cost, .int .i64 x] 77)).alloc (.cells #[] 77)).drew 2 (some ⟨w1.heap.size, 0, none⟩) 1 1 [.int .i64 cost, .int .i64 x] := (rd_two w1 (.int .i64 cost) (.int .i64 x) 77).ext (ext_trans (ext_alloc _ _) (ext_drew _))
  have EA := hid ea
  have EB := hid eb
  have EAB := hid eab
  have EBA := hid eba
  have OA := hid oa
  have OAB := hid oab
  have OBA := hid oba
  have RAB := hid rab
  have RBA := hid rba
  have hb1 : b < w1.heap.size := Nat.lt_of_lt_of_le hb hle1
  have hg1 : g < w1.heap.size := Nat.lt_of_lt_of_le H.out.top.lt hle1
  have hbg : ¬ b = g := fun e => H.out.gA (by simp) (by rw [e]; rfl)
  have hgb : ¬ g = b := fun e => hbg e.symm
  have FIN : Hid (∀ A8 c8 w8, OwnG isOne w8 w1.heap.size 77 2 A8 (l + 1) c8 (cellsI r.cl.L ++ [.int .i64 cost, .int .i64 x]) → Ext w1 w8 → ToM w (w8.setCell ⟨b, o + m * 4 + 3, none⟩ (.slice A8 (l + 1) c8)) g p (some ⟨b, o, none⟩) c base R1 r R2 (cost, x)) := hid (fun A8 c8 w8 o8 x8 => (by
    have x9 : Ext w w8 := ext_trans X1.out x8
    obtain ⟨hn, hm, hA0, hcc0, hl0⟩ := HMN.out
    have h8 := H.out.ext x9
    obtain ⟨cs, hbk⟩ := own_blk (OW.out.ext x9)
    have hL : (r.cl.L ++ [(cost, x)]).length = l + 1 := by simp [hl0]
    have e4 : o + m * 4 + 3 = o + (R1.length * 4 + 3) := by rw [hm]; omega
    have hcell : cellsI (r.cl.L ++ [(cost, x)]) = cellsI r.cl.L ++ [.int .i64 cost, .int .i64 x] := by rw [cellsI_append]; simp [cellsI]
    have hlen : (R1 ++ r :: R2).length = (R1 ++ (⟨⟨r.cl.n, r.cl.cr, r.cl.L ++ [(cost, x)]⟩, r.t, A8, c8⟩ : Ln) :: R2).length := by simp
    have o9 : OwnG isOne (w8.setCell ⟨b, o + m * 4 + 3, none⟩ (.slice A8 (l + 1) c8)) base 75 4 (some ⟨b, o, none⟩) (R1 ++ (⟨⟨r.cl.n, r.cl.cr, r.cl.L ++ [(cost, x)]⟩, r.t, A8, c8⟩ : Ln) :: R2).length c (cellsN (R1 ++ (⟨⟨r.cl.n, r.cl.cr, r.cl.L ++ [(cost, x)]⟩, r.t, A8, c8⟩ : Ln) :: R2)) := by
      rw [cellsN_put, e4, ← hlen, hL]
      exact own_put (OW.out.ext x9) rfl
    have ss := set_shy b (o + m * 4 + 3) (.slice A8 (l + 1) c8) w8
    refine ⟨A8, c8, fun k hk => Nat.le_trans HLE.out (o8.lt k hk).1, ⟨(by rw [← hlen]; exact h8.top.shy ss (fun e => hgb e)), o9.rd, fun q hq => ?_, fun _ => H.out.gA (by simp)⟩, o9, ?_⟩
    · rw [List.mem_append, List.mem_cons] at hq
      have old : ∀ q ∈ R1 ++ r :: R2, OwnO isOne (w8.setCell ⟨b, o + m * 4 + 3, none⟩ (.slice A8 (l + 1) c8)) 77 2 q.A q.cl.L.length q.cc (cellsI q.cl.L) := fun q hq => OwnO.shy ss (h8.its q hq) (fun k hk e => (h8.its q hq).blk_ne hbk (by decide) (e ▸ hk))
      rcases hq with hq | rfl | hq
      · exact old q (by simp [hq])
      · show OwnO isOne _ _ 2 A8 (r.cl.L ++ [(cost, x)]).length c8 (cellsI (r.cl.L ++ [(cost, x)]))
        rw [hL, hcell]
        exact OwnO.shy ss o8.own_o (fun k hk e => o8.own_o.blk_ne hbk (by decide) (e ▸ hk))
      · exact old q (by simp [hq])
    · exact ((Shy.of_ext x9).trans ss fun j _ e => (by show blk (some ⟨b, o, none⟩) = some j; rw [e]; rfl))))
  clear hw1 x1 c1 c3 c4 cf x3 hle1 ea eb eab eba oa oab oba rab rba
  go_wp2_with fail
  refine wp_region_noPanic ?_
  refine region_E (S := fun W => W.cell? ⟨g, 4, none⟩ = some (.slice (some ⟨b, o, none⟩) n c) ∧ W.cell? ⟨b, o + m * 4 + 3, none⟩ = some (.slice A0 l cc) ∧ W.frozen? ⟨b, o + m * 4 + 3, none⟩ = false) 22 (by kernel_rfl) (by kernel_rfl) (by kernel_rfl) ?_
  refine EG_take 0 (v := ?v1) (by simp only [List.getElem?_toArray, List.getElem?_cons_succ, List.getElem?_cons_zero]; rfl) (by kernel_rfl) (by kernel_rfl) (by decide) (fun _ _ _ h => h) (Or.inl ⟨by rfl, ?hy1⟩) (K1.out _ (ext_drew _)) ?rest1
  case hy1 => intro W hSW; (try dsimp only at hSW); obtain ⟨e4, e3, ef⟩ := hSW; go_simp <;> with_reducible rfl
  try simp only [Act.put, List.setIfInBounds_toArray, List.set_cons_zero, List.set_cons_succ]
  refine EG_take 1 (v := ?v2) (by simp only [List.getElem?_toArray, List.getElem?_cons_succ, List.getElem?_cons_zero]; rfl) (by kernel_rfl) (by kernel_rfl) (by decide) (fun _ _ _ h => h) (Or.inl ⟨by rfl, ?hy2⟩) (K1.out _ (ext_drew _)) ?rest2
  case hy2 => intro W hSW; (try dsimp only at hSW); obtain ⟨e4, e3, ef⟩ := hSW; go_simp <;> with_reducible rfl
  try simp only [Act.put, List.setIfInBounds_toArray, List.set_cons_zero, List.set_cons_succ]
  refine EG_take 2 (v := ?v3) (by simp only [List.getElem?_toArray, List.getElem?_cons_succ, List.getElem?_cons_zero]; rfl) (by kernel_rfl) (by kernel_rfl) (by decide) (fun _ _ _ h => h) (Or.inl ⟨by rfl, ?hy3⟩) (K1.out _ (ext_drew _)) ?rest3
  case hy3 => intro W hSW; (try dsimp only at hSW); obtain ⟨e4, e3, ef⟩ := hSW; go_simp <;> with_reducible rfl
  try simp only [Act.put, List.setIfInBounds_toArray, List.set_cons_zero, List.set_cons_succ]
  refine EG_take 3 (v := ?v4) (by simp only [List.getElem?_toArray, List.getElem?_cons_succ, List.getElem?_cons_zero]; rfl) (by kernel_rfl) (by kernel_rfl) (by decide) (fun _ _ _ h => h) (Or.inl ⟨by rfl, ?hy4⟩) (K1.out _ (ext_drew _)) ?rest4
  case hy4 => intro W hSW; (try dsimp only at hSW); obtain ⟨e4, e3, ef⟩ := hSW; go_simp <;> with_reducible rfl
  try simp only [Act.put, List.setIfInBounds_toArray, List.set_cons_zero, List.set_cons_succ]
  refine EG_take 4 (v := ?v5) (by simp only [List.getElem?_toArray, List.getElem?_cons_succ, List.getElem?_cons_zero]; rfl) (by kernel_rfl) (by kernel_rfl) (by decide) (fun _ _ _ h => h) (Or.inl ⟨by rfl, ?hy5⟩) (K1.out _ (ext_drew _)) ?rest5
  case hy5 => intro W hSW; (try dsimp only at hSW); obtain ⟨e4, e3, ef⟩ := hSW; go_simp <;> with_reducible rfl
  try simp only [Act.put, List.setIfInBounds_toArray, List.set_cons_zero, List.set_cons_succ]
  refine EG_take 6 (v := ?v6) (by simp only [List.getElem?_toArray, List.getElem?_cons_succ, List.getElem?_cons_zero]; rfl) (by kernel_rfl) (by kernel_rfl) (by decide) (fun _ _ _ h => h) (Or.inl ⟨by rfl, ?hy6⟩) (K1.out _ (ext_drew _)) ?rest6
  case hy6 => intro W hSW; (try dsimp only at hSW); obtain ⟨e4, e3, ef⟩ := hSW; go_simp <;> with_reducible rfl
  try simp only [Act.put, List.setIfInBounds_toArray, List.set_cons_zero, List.set_cons_succ]
  refine EG_take 7 (v := ?v7) (by simp only [List.getElem?_toArray, List.getElem?_cons_succ, List.getElem?_cons_zero]; rfl) (by kernel_rfl) (by kernel_rfl) (by decide) (fun _ _ _ h => h) (Or.inl ⟨by rfl, ?hy7⟩) (K1.out _ (ext_drew _)) ?rest7
  case hy7 => intro W hSW; (try dsimp only at hSW); obtain ⟨e4, e3, ef⟩ := hSW; go_simp <;> with_reducible rfl
  try simp only [Act.put, List.setIfInBounds_toArray, List.set_cons_zero, List.set_cons_succ]
  refine EG_take 8 (v := ?v8) (by simp only [List.getElem?_toArray, List.getElem?_cons_succ, List.getElem?_cons_zero]; rfl) (by kernel_rfl) (by kernel_rfl) (by decide) (fun _ _ _ h => h) (Or.inl ⟨by rfl, ?hy8⟩) (K1.out _ (ext_drew _)) ?rest8
  case hy8 => intro W hSW; (try dsimp only at hSW); obtain ⟨e4, e3, ef⟩ := hSW; go_simp <;> with_reducible rfl
  try simp only [Act.put, List.setIfInBounds_toArray, List.set_cons_zero, List.set_cons_succ]
  refine EG_take 9 (v := ?v9) (by simp only [List.getElem?_toArray, List.getElem?_cons_succ, List.getElem?_cons_zero]; rfl) (by kernel_rfl) (by kernel_rfl) (by decide) (fun _ _ _ h => h) (Or.inl ⟨by rfl, ?hy9⟩) (K1.out _ (ext_drew _)) ?rest9
  case hy9 => intro W hSW; (try dsimp only at hSW); obtain ⟨e4, e3, ef⟩ := hSW; go_simp <;> with_reducible rfl
  try simp only [Act.put, List.setIfInBounds_toArray, List.set_cons_zero, List.set_cons_succ]
  refine EG_take 10 (v := ?v10) (by simp only [List.getElem?_toArray, List.getElem?_cons_succ, List.getElem?_cons_zero]; rfl) (by kernel_rfl) (by kernel_rfl) (by decide) (fun _ _ _ h => h) (Or.inl ⟨by rfl, ?hy10⟩) (K1.out _ (ext_drew _)) ?rest10
  case hy10 => intro W hSW; (try dsimp only at hSW); obtain ⟨e4, e3, ef⟩ := hSW; go_simp <;> with_reducible rfl
  try simp only [Act.put, List.setIfInBounds_toArray, List.set_cons_zero, List.set_cons_succ]
  refine EG_take 11 (v := ?v11) (by simp only [List.getElem?_toArray, List.getElem?_cons_succ, List.getElem?_cons_zero]; rfl) (by kernel_rfl) (by kernel_rfl) (by decide) (fun _ _ _ h => h) (Or.inl ⟨by rfl, ?hy11⟩) (K1.out _ (ext_drew _)) ?rest11
  case hy11 => intro W hSW; (try dsimp only at hSW); obtain ⟨e4, e3, ef⟩ := hSW; go_simp <;> with_reducible rfl
  try simp only [Act.put, List.setIfInBounds_toArray, List.set_cons_zero, List.set_cons_succ]
  refine EG_take 12 (v := ?v12) (by simp only [List.getElem?_toArray, List.getElem?_cons_succ, List.getElem?_cons_zero]; rfl) (by kernel_rfl) (by kernel_rfl) (by decide) (fun _ _ _ h => h) (Or.inl ⟨by rfl, ?hy12⟩) (K1.out _ (ext_drew _)) ?rest12
  case hy12 => intro W hSW; (try dsimp only at hSW); obtain ⟨e4, e3, ef⟩ := hSW; go_simp <;> with_reducible rfl
  try simp only [Act.put, List.setIfInBounds_toArray, List.set_cons_zero, List.set_cons_succ]
  refine EG_take 13 (v := ?v13) (by simp only [List.getElem?_toArray, List.getElem?_cons_succ, List.getElem?_cons_zero]; rfl) (by kernel_rfl) (by kernel_rfl) (by decide) (fun _ _ _ h => h) (Or.inl ⟨by rfl, ?hy13⟩) (K1.out _ (ext_drew _)) ?rest13
  case hy13 => intro W hSW; (try dsimp only at hSW); obtain ⟨e4, e3, ef⟩ := hSW; go_simp <;> with_reducible rfl
  try simp only [Act.put, List.setIfInBounds_toArray, List.set_cons_zero, List.set_cons_succ]
  refine EG_take 15 (v := ?v14) (by simp only [List.getElem?_toArray, List.getElem?_cons_succ, List.getElem?_cons_zero]; rfl) (by kernel_rfl) (by kernel_rfl) (by decide) (fun _ _ _ h => h) (Or.inl ⟨by rfl, ?hy14⟩) (K1.out _ (ext_drew _)) ?rest14
  case hy14 => intro W hSW; (try dsimp only at hSW); obtain ⟨e4, e3, ef⟩ := hSW; go_simp <;> with_reducible rfl
  try simp only [Act.put, List.setIfInBounds_toArray, List.set_cons_zero, List.set_cons_succ]
  refine EG_take 16 (v := ?v15) (by simp only [List.getElem?_toArray, List.getElem?_cons_succ, List.getElem?_cons_zero]; rfl) (by kernel_rfl) (by kernel_rfl) (by decide) (fun _ _ _ h => h) (Or.inl ⟨by rfl, ?hy15⟩) (K1.out _ (ext_drew _)) ?rest15
  case hy15 => intro W hSW; (try dsimp only at hSW); obtain ⟨e4, e3, ef⟩ := hSW; go_simp <;> with_reducible rfl
  try simp only [Act.put, List.setIfInBounds_toArray, List.set_cons_zero, List.set_cons_succ]
  refine EG_take 17 (v := ?v16) (by simp only [List.getElem?_toArray, List.getElem?_cons_succ, List.getElem?_cons_zero]; rfl) (by kernel_rfl) (by kernel_rfl) (by decide) (fun _ _ _ h => h) (Or.inl ⟨by rfl, ?hy16⟩) (K1.out _ (ext_drew _)) ?rest16
  case hy16 => intro W hSW; (try dsimp only at hSW); obtain ⟨e4, e3, ef⟩ := hSW; go_simp <;> with_reducible rfl
  try simp only [Act.put, List.setIfInBounds_toArray, List.set_cons_zero, List.set_cons_succ]
  refine EG_two 5 18 (by kernel_rfl) (by simp only [List.getElem?_toArray, List.getElem?_cons_succ, List.getElem?_cons_zero]; rfl) (by simp only [List.getElem?_toArray, List.getElem?_cons_succ, List.getElem?_cons_zero]; rfl) (by decide) (by decide) ?_ ?_
  · intro K hK0
    have hK := hid hK0
    clear hK0
    go_simp
    refine hK.out _ _ (K1.out _ EA.out) ?_
    clear hK K
    try simp only [Act.put, List.setIfInBounds_toArray, List.set_cons_zero, List.set_cons_succ]
    refine EG_two 14 18 (by kernel_rfl) (by simp only [List.getElem?_toArray, List.getElem?_cons_succ, List.getElem?_cons_zero]; rfl) (by simp only [List.getElem?_toArray, List.getElem?_cons_succ, List.getElem?_cons_zero]; rfl) (by decide) (by decide) ?_ ?_
    · intro K hK0
      have hK := hid hK0
      clear hK0
      refine step_append_g rfl (.tmp 68) (.tmp 76) 73 (by rfl) w1.heap.size 77 i0 (.agg #[.int .i64 0, .int .i64 0]) 2 16 Try.underlying73 hi hz0 hz1 hz2 (by rfl) (by decide) (by intro u hu; simp [Value.cells] at hu; rcases hu with rfl | rfl <;> exact rfl) (fun _ h => h) (by rfl) (by first | exact OA.out | exact OAB.out | exact OBA.out) (by rfl) (by first | exact IT.out _ EA.out | exact IT.out _ EAB.out | exact IT.out _ EBA.out) (cellsI_one _) (by omega) (by unfold maxLen; omega) (by first | exact EA.out.size | exact EAB.out.size | exact EBA.out.size) ?_; intro A6 c6 w6 o6 g6 n6; simp only [Nat.zero_add, List.nil_append] at o6 ⊢; (first | (have RJ := hid (RAB.out.grown g6 (fun _ => (by simp)))) | (have RJ := hid (RBA.out.grown g6 (fun _ => (by simp)))) | (have RJ := hid (rd_two w6 (.int .i64 cost) (.int .i64 x) 77))); have O6 := hid o6; have X : Hid (Ext w1 w6) := hid (by first | exact below_of_grown EA.out EA.out.size g6 (fun g hg => (by simp at hg; omega)) | exact below_of_grown EAB.out EAB.out.size g6 (fun g hg => (by simp at hg; omega)) | exact below_of_grown EBA.out EBA.out.size g6 (fun g hg => (by simp at hg; omega))); have zb := Nat.lt_of_lt_of_le hb1 X.out.size; have zg := Nat.lt_of_lt_of_le hg1 X.out.size; obtain ⟨z4, z3, zf⟩ := K1.out _ X.out; clear o6 g6 n6
      refine hK.out _ _ (K1.out _ X.out) ?_
      clear hK K
      try simp only [Act.put, List.setIfInBounds_toArray, List.set_cons_zero, List.set_cons_succ]
      refine EG_one 18 (by kernel_rfl) (by simp only [List.getElem?_toArray, List.getElem?_cons_succ, List.getElem?_cons_zero]; rfl) (by decide) ?_
      intro K hK0
      have hK := hid hK0
      clear hK0
      go_simp
      refine hK.out _ _ (K1.out _ (ext_trans X.out (ext_alloc _ _))) ?_
      clear hK K
      try simp only [Act.put, List.setIfInBounds_toArray, List.set_cons_zero, List.set_cons_succ]
      refine EG_one 19 (by kernel_rfl) (by simp only [List.getElem?_toArray, List.getElem?_cons_succ, List.getElem?_cons_zero]; rfl) (by decide) ?_
      intro K hK0
      have hK := hid hK0
      clear hK0
      refine step_append_g rfl (.tmp 77) (.tmp 81) 73 (by rfl) w1.heap.size 77 i0 (.agg #[.int .i64 0, .int .i64 0]) 2 16 Try.underlying73 hi hz0 hz1 hz2 (by rfl) (by decide) (by intro u hu; simp [Value.cells] at hu; rcases hu with rfl | rfl <;> exact rfl) (fun _ h => h) (by rfl) (by first | exact O6.out | exact O6.out.ext (ext_trans (ext_alloc _ _) (ext_drew _)) | exact O6.out.ext (ext_alloc _ _)) (by rfl) RJ.out (by intro u hu; simp at hu; rcases hu with rfl | rfl <;> exact rfl) (by omega) (by unfold maxLen; omega) (by first | exact X.out.size | (have := X.out.size; simp; omega)) ?_; intro A8 c8 w8 o8 g8 n8; have X8 : Hid (Ext w1 w8) := hid (by first | exact below_of_grown X.out (X.out.size) g8 (fun g hg => (O6.out.lt g hg).1) | exact below_of_grown (ext_trans X.out (ext_alloc _ _)) (by have := X.out.size; simp; omega) g8 (fun g hg => (O6.out.lt g hg).1) | exact below_of_grown (ext_trans X.out (ext_trans (ext_alloc _ _) (ext_drew _))) (by have := X.out.size; simp; omega) g8 (fun g hg => (O6.out.lt g hg).1)); have O8 := hid o8; clear o8 g8 n8; clear X; have X := X8; obtain ⟨y4, y3, yf⟩ := K1.out _ X8.out
      refine hK.out _ _ (K1.out _ X.out) ?_
      clear hK K
      try simp only [Act.put, List.setIfInBounds_toArray, List.set_cons_zero, List.set_cons_succ]
      refine EG_take 20 (v := ?v17) (by simp only [List.getElem?_toArray, List.getElem?_cons_succ, List.getElem?_cons_zero]; rfl) (by kernel_rfl) (by kernel_rfl) (by decide) (fun _ _ _ h => h) (Or.inl ⟨by rfl, ?hy17⟩) (K1.out _ X.out) ?rest17
      case hy17 => intro W hSW; (try dsimp only at hSW); obtain ⟨e4, e3, ef⟩ := hSW; go_simp <;> with_reducible rfl
      try simp only [Act.put, List.setIfInBounds_toArray, List.set_cons_zero, List.set_cons_succ]
      refine EG_take 21 (v := ?v18) (by simp only [List.getElem?_toArray, List.getElem?_cons_succ, List.getElem?_cons_zero]; rfl) (by kernel_rfl) (by kernel_rfl) (by decide) (fun _ _ _ h => h) (Or.inl ⟨by rfl, ?hy18⟩) (K1.out _ X.out) ?rest18
      case hy18 => intro W hSW; (try dsimp only at hSW); obtain ⟨e4, e3, ef⟩ := hSW; go_simp <;> with_reducible rfl
      try simp only [Act.put, List.setIfInBounds_toArray, List.set_cons_zero, List.set_cons_succ]
      refine EG_end (by kernel_rfl) (by simp only [List.getElem?_toArray, List.getElem?_cons_succ, List.getElem?_cons_zero]; rfl) ?_
      intro K hK0
      have hK := hid hK0
      clear hK0
      go_simp
      refine hK.out _ _ ?_
      clear hK K
      refine NoPanic.normal ?_
      go_wp2
      go_ret
      exact ⟨rfl, FIN.out _ _ _ O8.out X8.out⟩
    · intro K hK0
      have hK := hid hK0
      clear hK0
      go_simp
      refine hK.out _ _ (K1.out _ EAB.out) ?_
      clear hK K
      try simp only [Act.put, List.setIfInBounds_toArray, List.set_cons_zero, List.set_cons_succ]
      refine EG_one 14 (by kernel_rfl) (by simp only [List.getElem?_toArray, List.getElem?_cons_succ, List.getElem?_cons_zero]; rfl) (by decide) ?_
      intro K hK0
      have hK := hid hK0
      clear hK0
      refine step_append_g rfl (.tmp 68) (.tmp 76) 73 (by rfl) w1.heap.size 77 i0 (.agg #[.int .i64 0, .int .i64 0]) 2 16 Try.underlying73 hi hz0 hz1 hz2 (by rfl) (by decide) (by intro u hu; simp [Value.cells] at hu; rcases hu with rfl | rfl <;> exact rfl) (fun _ h => h) (by rfl) (by first | exact OA.out | exact OAB.out | exact OBA.out) (by rfl) (by first | exact IT.out _ EA.out | exact IT.out _ EAB.out | exact IT.out _ EBA.out) (cellsI_one _) (by omega) (by unfold maxLen; omega) (by first | exact EA.out.size | exact EAB.out.size | exact EBA.out.size) ?_; intro A6 c6 w6 o6 g6 n6; simp only [Nat.zero_add, List.nil_append] at o6 ⊢; (first | (have RJ := hid (RAB.out.grown g6 (fun _ => (by simp)))) | (have RJ := hid (RBA.out.grown g6 (fun _ => (by simp)))) | (have RJ := hid (rd_two w6 (.int .i64 cost) (.int .i64 x) 77))); have O6 := hid o6; have X : Hid (Ext w1 w6) := hid (by first | exact below_of_grown EA.out EA.out.size g6 (fun g hg => (by simp at hg; omega)) | exact below_of_grown EAB.out EAB.out.size g6 (fun g hg => (by simp at hg; omega)) | exact below_of_grown EBA.out EBA.out.size g6 (fun g hg => (by simp at hg; omega))); have zb := Nat.lt_of_lt_of_le hb1 X.out.size; have zg := Nat.lt_of_lt_of_le hg1 X.out.size; obtain ⟨z4, z3, zf⟩ := K1.out _ X.out; clear o6 g6 n6
      refine hK.out _ _ (K1.out _ X.out) ?_
      clear hK K
      try simp only [Act.put, List.setIfInBounds_toArray, List.set_cons_zero, List.set_cons_succ]
      refine EG_one 19 (by kernel_rfl) (by simp only [List.getElem?_toArray, List.getElem?_cons_succ, List.getElem?_cons_zero]; rfl) (by decide) ?_
      intro K hK0
      have hK := hid hK0
      clear hK0
      refine step_append_g rfl (.tmp 77) (.tmp 81) 73 (by rfl) w1.heap.size 77 i0 (.agg #[.int .i64 0, .int .i64 0]) 2 16 Try.underlying73 hi hz0 hz1 hz2 (by rfl) (by decide) (by intro u hu; simp [Value.cells] at hu; rcases hu with rfl | rfl <;> exact rfl) (fun _ h => h) (by rfl) (by first | exact O6.out | exact O6.out.ext (ext_trans (ext_alloc _ _) (ext_drew _)) | exact O6.out.ext (ext_alloc _ _)) (by rfl) RJ.out (by intro u hu; simp at hu; rcases hu with rfl | rfl <;> exact rfl) (by omega) (by unfold maxLen; omega) (by first | exact X.out.size | (have := X.out.size; simp; omega)) ?_; intro A8 c8 w8 o8 g8 n8; have X8 : Hid (Ext w1 w8) := hid (by first | exact below_of_grown X.out (X.out.size) g8 (fun g hg => (O6.out.lt g hg).1) | exact below_of_grown (ext_trans X.out (ext_alloc _ _)) (by have := X.out.size; simp; omega) g8 (fun g hg => (O6.out.lt g hg).1) | exact below_of_grown (ext_trans X.out (ext_trans (ext_alloc _ _) (ext_drew _))) (by have := X.out.size; simp; omega) g8 (fun g hg => (O6.out.lt g hg).1)); have O8 := hid o8; clear o8 g8 n8; clear X; have X := X8; obtain ⟨y4, y3, yf⟩ := K1.out _ X8.out
      refine hK.out _ _ (K1.out _ X.out) ?_
      clear hK K
      try simp only [Act.put, List.setIfInBounds_toArray, List.set_cons_zero, List.set_cons_succ]
      refine EG_take 20 (v := ?v19) (by simp only [List.getElem?_toArray, List.getElem?_cons_succ, List.getElem?_cons_zero]; rfl) (by kernel_rfl) (by kernel_rfl) (by decide) (fun _ _ _ h => h) (Or.inl ⟨by rfl, ?hy19⟩) (K1.out _ X.out) ?rest19
      case hy19 => intro W hSW; (try dsimp only at hSW); obtain ⟨e4, e3, ef⟩ := hSW; go_simp <;> with_reducible rfl
      try simp only [Act.put, List.setIfInBounds_toArray, List.set_cons_zero, List.set_cons_succ]
      refine EG_take 21 (v := ?v20) (by simp only [List.getElem?_toArray, List.getElem?_cons_succ, List.getElem?_cons_zero]; rfl) (by kernel_rfl) (by kernel_rfl) (by decide) (fun _ _ _ h => h) (Or.inl ⟨by rfl, ?hy20⟩) (K1.out _ X.out) ?rest20
      case hy20 => intro W hSW; (try dsimp only at hSW); obtain ⟨e4, e3, ef⟩ := hSW; go_simp <;> with_reducible rfl
      try simp only [Act.put, List.setIfInBounds_toArray, List.set_cons_zero, List.set_cons_succ]
      refine EG_end (by kernel_rfl) (by simp only [List.getElem?_toArray, List.getElem?_cons_succ, List.getElem?_cons_zero]; rfl) ?_
      intro K hK0
      have hK := hid hK0
      clear hK0
      go_simp
      refine hK.out _ _ ?_
      clear hK K
      refine NoPanic.normal ?_
      go_wp2
      go_ret
      exact ⟨rfl, FIN.out _ _ _ O8.out X8.out⟩
  · intro K hK0
    have hK := hid hK0
    clear hK0
    go_simp
    refine hK.out _ _ (K1.out _ EB.out) ?_
    clear hK K
    try simp only [Act.put, List.setIfInBounds_toArray, List.set_cons_zero, List.set_cons_succ]
    refine EG_one 5 (by kernel_rfl) (by simp only [List.getElem?_toArray, List.getElem?_cons_succ, List.getElem?_cons_zero]; rfl) (by decide) ?_
    intro K hK0
    have hK := hid hK0
    clear hK0
    go_simp
    refine hK.out _ _ (K1.out _ EBA.out) ?_
    clear hK K
    try simp only [Act.put, List.setIfInBounds_toArray, List.set_cons_zero, List.set_cons_succ]
    refine EG_one 14 (by kernel_rfl) (by simp only [List.getElem?_toArray, List.getElem?_cons_succ, List.getElem?_cons_zero]; rfl) (by decide) ?_
    intro K hK0
    have hK := hid hK0
    clear hK0
    refine step_append_g rfl (.tmp 68) (.tmp 76) 73 (by rfl) w1.heap.size 77 i0 (.agg #[.int .i64 0, .int .i64 0]) 2 16 Try.underlying73 hi hz0 hz1 hz2 (by rfl) (by decide) (by intro u hu; simp [Value.cells] at hu; rcases hu with rfl | rfl <;> exact rfl) (fun _ h => h) (by rfl) (by first | exact OA.out | exact OAB.out | exact OBA.out) (by rfl) (by first | exact IT.out _ EA.out | exact IT.out _ EAB.out | exact IT.out _ EBA.out) (cellsI_one _) (by omega) (by unfold maxLen; omega) (by first | exact EA.out.size | exact EAB.out.size | exact EBA.out.size) ?_; intro A6 c6 w6 o6 g6 n6; simp only [Nat.zero_add, List.nil_append] at o6 ⊢; (first | (have RJ := hid (RAB.out.grown g6 (fun _ => (by simp)))) | (have RJ := hid (RBA.out.grown g6 (fun _ => (by simp)))) | (have RJ := hid (rd_two w6 (.int .i64 cost) (.int .i64 x) 77))); have O6 := hid o6; have X : Hid (Ext w1 w6) := hid (by first | exact below_of_grown EA.out EA.out.size g6 (fun g hg => (by simp at hg; omega)) | exact below_of_grown EAB.out EAB.out.size g6 (fun g hg => (by simp at hg; omega)) | exact below_of_grown EBA.out EBA.out.size g6 (fun g hg => (by simp at hg; omega))); have zb := Nat.lt_of_lt_of_le hb1 X.out.size; have zg := Nat.lt_of_lt_of_le hg1 X.out.size; obtain ⟨z4, z3, zf⟩ := K1.out _ X.out; clear o6 g6 n6
    refine hK.out _ _ (K1.out _ X.out) ?_
    clear hK K
    try simp only [Act.put, List.setIfInBounds_toArray, List.set_cons_zero, List.set_cons_succ]
    refine EG_one 19 (by kernel_rfl) (by simp only [List.getElem?_toArray, List.getElem?_cons_succ, List.getElem?_cons_zero]; rfl) (by decide) ?_
    intro K hK0
    have hK := hid hK0
    clear hK0
    refine step_append_g rfl (.tmp 77) (.tmp 81) 73 (by rfl) w1.heap.size 77 i0 (.agg #[.int .i64 0, .int .i64 0]) 2 16 Try.underlying73 hi hz0 hz1 hz2 (by rfl) (by decide) (by intro u hu; simp [Value.cells] at hu; rcases hu with rfl | rfl <;> exact rfl) (fun _ h => h) (by rfl) (by first | exact O6.out | exact O6.out.ext (ext_trans (ext_alloc _ _) (ext_drew _)) | exact O6.out.ext (ext_alloc _ _)) (by rfl) RJ.out (by intro u hu; simp at hu; rcases hu with rfl | rfl <;> exact rfl) (by omega) (by unfold maxLen; omega) (by first | exact X.out.size | (have := X.out.size; simp; omega)) ?_; intro A8 c8 w8 o8 g8 n8; have X8 : Hid (Ext w1 w8) := hid (by first | exact below_of_grown X.out (X.out.size) g8 (fun g hg => (O6.out.lt g hg).1) | exact below_of_grown (ext_trans X.out (ext_alloc _ _)) (by have := X.out.size; simp; omega) g8 (fun g hg => (O6.out.lt g hg).1) | exact below_of_grown (ext_trans X.out (ext_trans (ext_alloc _ _) (ext_drew _))) (by have := X.out.size; simp; omega) g8 (fun g hg => (O6.out.lt g hg).1)); have O8 := hid o8; clear o8 g8 n8; clear X; have X := X8; obtain ⟨y4, y3, yf⟩ := K1.out _ X8.out
    refine hK.out _ _ (K1.out _ X.out) ?_
    clear hK K
    try simp only [Act.put, List.setIfInBounds_toArray, List.set_cons_zero, List.set_cons_succ]
    refine EG_take 20 (v := ?v21) (by simp only [List.getElem?_toArray, List.getElem?_cons_succ, List.getElem?_cons_zero]; rfl) (by kernel_rfl) (by kernel_rfl) (by decide) (fun _ _ _ h => h) (Or.inl ⟨by rfl, ?hy21⟩) (K1.out _ X.out) ?rest21
    case hy21 => intro W hSW; (try dsimp only at hSW); obtain ⟨e4, e3, ef⟩ := hSW; go_simp <;> with_reducible rfl
    try simp only [Act.put, List.setIfInBounds_toArray, List.set_cons_zero, List.set_cons_succ]
    refine EG_take 21 (v := ?v22) (by simp only [List.getElem?_toArray, List.getElem?_cons_succ, List.getElem?_cons_zero]; rfl) (by kernel_rfl) (by kernel_rfl) (by decide) (fun _ _ _ h => h) (Or.inl ⟨by rfl, ?hy22⟩) (K1.out _ X.out) ?rest22
    case hy22 => intro W hSW; (try dsimp only at hSW); obtain ⟨e4, e3, ef⟩ := hSW; go_simp <;> with_reducible rfl
    try simp only [Act.put, List.setIfInBounds_toArray, List.set_cons_zero, List.set_cons_succ]
    refine EG_end (by kernel_rfl) (by simp only [List.getElem?_toArray, List.getElem?_cons_succ, List.getElem?_cons_zero]; rfl) ?_
    intro K hK0
    have hK := hid hK0
    clear hK0
    go_simp
    refine hK.out _ _ ?_
    clear hK K
    refine NoPanic.normal ?_
    go_wp2
    go_ret
    exact ⟨rfl, FIN.out _ _ _ O8.out X8.out⟩
end
end Go.Proofs.Ytkogagpahidenaa

/- Layer 21: the document's Next and Peek. -/
import Derived.Test.YtkogagpahidenaaDrrT
import Derived.Deep.DeepCutAuto
import Derived.IntWalk
namespace Go.Proofs.Ytkogagpahidenaa
open Go.BK Go.BK.DR Go.RowKit Go.Maps
set_option linter.unusedVariables false
def turnOf : List Ln → Bool
  | [] => false
  | r :: _ => r.t
def stN (R : List Ln) : St := ⟨R.map Ln.cl, turnOf R⟩
def okN (R : List Ln) : Prop := ∀ s ∈ R.tail, s.t = false
theorem info_line : (Try.prog.info? 75).map (fun i => (i.zero, i.size, i.bytes)) = some (some (.agg #[.int .i64 0, .int .i64 0, .bool false, .slice none 0 0]), 4, 48) := by kernel_rfl
theorem rd_four (w : World) (a b c d : Value) (e : TypeId) : RdG (w.alloc (.cells #[a, b, c, d] e)) 4 (some ⟨w.heap.size, 0, none⟩) 1 1 [a, b, c, d] := by
  refine ⟨rfl, Nat.le_refl _, by simp [maxLen], fun _ => ⟨w.heap.size, 0, rfl, by simp, fun j u hj => ?_⟩⟩
  rcases j with _ | _ | _ | _ | j
  · simp at hj; subst hj; simp
  · simp at hj; subst hj; simp
  · simp at hj; subst hj; simp
  · simp at hj; subst hj; simp
  · simp at hj
theorem own_four (w : World) (a b c d : Value) (e : TypeId) (base : Nat) (hb : base ≤ w.heap.size) (h : ∀ u ∈ [a, b, c, d], isOne u) : OwnG isOne (w.alloc (.cells #[a, b, c, d] e)) base e 4 (some ⟨w.heap.size, 0, none⟩) 1 1 [a, b, c, d] := by
  have := OwnG.new (ok := isOne) (base := base) (size := 4) (e := e) w [a, b, c, d] 1 1 hb rfl (Nat.le_refl _) (by simp [maxLen]) h
  simpa using this
theorem own_none (w : World) (e : TypeId) (base size : Nat) (hb : base ≤ w.heap.size) : OwnG isOne (w.alloc (.cells #[] e)) base e size (some ⟨w.heap.size, 0, none⟩) 0 0 [] := by
  have := OwnG.new (ok := isOne) (base := base) (size := size) (e := e) w [] 0 0 hb (by simp) (Nat.le_refl _) (by simp [maxLen]) (by simp)
  simpa using this
theorem own_ne {ok : Value → Prop} {w : World} {base size n c g : Nat} {e t : TypeId} {A : Option Addr} {xs : List Value} {cs : Array Value} (hg : Blk w g t cs) (ho : OwnG ok w base e size A n c xs) (ne : t ≠ e) : blk A ≠ some g := by
  intro hA
  rcases ho with ⟨rfl, _⟩ | ⟨b, full, rfl, _, hb, _⟩
  · cases hA
  · simp at hA
    subst hA
    exact blk_ne hg hb ne rfl
/-- What has become of the ring. -/
def ToN (w w' : World) (g : Nat) (p : Par) (R : List Ln) (s : St) : Prop :=
  ∃ A' c' R', RfR w' g p A' c' R' ∧ OwnG isOne w' w.heap.size 75 4 A' R'.length c' (cellsN R') ∧ stN R' = s ∧ okN R' ∧ (∀ x ∈ R', ∃ y ∈ R, blk x.A = blk y.A) ∧ Shy (fun k => k = g) w w'
def turnW (g : Nat) (w : World) : Nat := match w.cell? ⟨g, 4, none⟩ with
  | some (.slice (some a) _ _) => (match w.cell? ⟨a.block, a.off + 2, none⟩ with
    | some (.bool true) => 1
    | _ => 0)
  | _ => 0
def RnRel (w : World) (g : Nat) (p : Par) (R : List Ln) (wr : World) : Prop :=
  ∃ A c R', RfR wr g p A c R' ∧ nextS p (stN R') = nextS p (stN R) ∧ (stN R').ok p ∧ okN R' ∧ (∀ x ∈ R', ∃ y ∈ R, blk x.A = blk y.A) ∧ Shy (fun k => k = g) w wr ∧ R' ≠ []
/-- Where the first one's turn has begun. -/
def CutN2 (w wr : World) (g fb : Nat) (p : Par) (A : Option Addr) (c : Nat) (R : List Ln) (A6 : Option Addr) (c6 : Nat) (R2 : List Ln) (rn cr : Int) (A1 : Option Addr) (l cc : Nat) (wx : World) : Prop :=
  RfR wx g p A c R ∧ OwnG isOne wx w.heap.size 75 4 A6 R2.length c6 (cellsN R2) ∧ Blk wx fb 75 #[.int .i64 rn, .int .i64 cr, .bool true, .slice A1 l cc] ∧ Ext wr wx
section
variable {U : Nat → Prop} {w w' : World} {g c : Nat} {p : Par} {A : Option Addr} {R R1 R2 : List Ln} {r : Ln}
theorem cutO {b o cc : Nat} {m : Nat} {L : List (Int × Int)} {x : Int × Int} {t : TypeId} (h : OwnO isOne w t 2 (some ⟨b, o, none⟩) (m + 1) cc (cellsI (x :: L))) (hm : L.length = m) :
    OwnO isOne w t 2 (if cc = 1 then some ⟨b, o, none⟩ else some ⟨b, o + 2, none⟩) L.length (cc - 1) (cellsI L) := by
  have h1 := h.cut (i := 1) (by omega) (by omega) (A' := if cc = 1 then some ⟨b, o, none⟩ else some ⟨b, o + 2, none⟩) (by
    by_cases hc : cc = 1
    · exact .inr ⟨hc, by rw [if_pos hc]⟩
    · exact .inl (by rw [if_neg hc]; simp [Addr.add_lit]))
  rw [hm]
  simpa [cellsI] using h1
theorem turn_app {R : List Ln} {r : Ln} (h : ∀ s ∈ R, s.t = false) (hr : r.t = false) : turnOf (R ++ [r]) = false := by
  cases R with
  | nil => exact hr
  | cons s R => exact h s (by simp)
/-- What the ring's first flag says. -/
theorem RfR.turnW_of (h : RfR w g p A c R) (h0 : R ≠ []) : turnW g w = if turnOf R then 1 else 0 := by
  cases R with
  | nil => exact absurd rfl h0
  | cons r R =>
    obtain ⟨b, o, rfl, hb, hc⟩ := h.spot (by simp)
    obtain ⟨_, _, c2, _⟩ := hc 0 (by simp)
    simp at c2
    have e : turnW g w = (match w.cell? ⟨b, o + 2, none⟩ with
      | some (.bool true) => 1
      | _ => 0) := by
      unfold turnW
      rw [h.top.cell 4]
      rfl
    rw [e, c2]
    cases ht : r.t <;> simp [turnOf, ht]
/-- A ring of the call's own is laid in the old one's place. -/
theorem RfR.place {V : Nat → Prop} {w9 w10 w11 : World} (h : RfR w9 g p A c R) (hs : Shy V w9 w10) (hVg : ¬ V g) {A8 : Option Addr} {c8 n base : Nat} {R' : List Ln} (hn : R'.length = n) (o : OwnG isOne w10 base 75 4 A8 n c8 (cellsN R'))
    (hits : ∀ q ∈ R', OwnO isOne w9 77 2 q.A q.cl.L.length q.cc (cellsI q.cl.L) ∧ ∀ k, blk q.A = some k → ¬ V k) (hw : w11 = w10.setCell ⟨g, 4, none⟩ (.slice A8 n c8)) :
    RfR w11 g p A8 c8 R' ∧ OwnG isOne w11 base 75 4 A8 R'.length c8 (cellsN R') := by
  subst hw
  subst hn
  have ht := h.top.shy hs hVg
  have hAg := own_ne ht o (by decide)
  have o2 := Shy.ownG (set_shy g 4 (.slice A8 R'.length c8) w10) o fun k hk e => hAg (e ▸ hk)
  refine ⟨⟨?_, o2.rd, fun q hq => ?_, fun _ => hAg⟩, o2⟩
  · have := ht.set_ 4 (.slice A8 R'.length c8)
    simpa using this
  · have h1 := OwnO.shy hs (hits q hq).1 (hits q hq).2
    exact OwnO.shy (set_shy g 4 _ w10) h1 fun k hk e => h1.blk_ne ht (by decide) (e ▸ hk)
set_option maxHeartbeats 8000000 in
set_option maxRecDepth 100000 in
theorem rnext_any (h : RfR w g p A c R) (hp : p.ok) (hs : (stN R).ok p) (hk : okN R) (hne : R ≠ []) (hlen : R.length ≤ 1024) :
    Calls Try.prog 21 #[.pointer (some ⟨g, 0, none⟩)] w fun e w' => e = .returned (tellV (nextS p (stN R)).2) ∧ ToN w w' g p R (nextS p (stN R)).1 := by
  obtain ⟨res, hres⟩ : ∃ res, nextS p (stN R) = res := ⟨_, rfl⟩
  have HST : Hid (RnRel w g p R w) := hid ⟨A, c, R, h, rfl, hs, hk, fun x hx => ⟨x, hx, rfl⟩, Shy.refl _, hne⟩
  have HR := hid hres
  rw [hres]
  have HP := hid hp
  have HGL := hid h.top.lt
  have HIL : Hid (∀ x ∈ R, ∀ k, blk x.A = some k → k < w.heap.size) := hid fun x hx k hk => (h.its x hx).lt k hk
  obtain ⟨tv, htv⟩ : ∃ tv, tellV res.2 = tv := ⟨_, rfl⟩
  have HTV := hid htv
  rw [htv]
  obtain ⟨i0, hi, hz0, hz1, hz2⟩ := info_parts info_line
  have hpp := hp
  unfold Par.ok at hpp
  clear h hs hk hne hres hp htv hlen
  go_enter Try.func21, Try.ntmps21
  go_wp2_with fail
  go_loopw [] (fun wr => RnRel w g p R wr) (fun wr => turnW g wr)
  case atStart => exact HST.out
  case round =>
    obtain ⟨A', c', R', hr, hnx, hok, hkn, hbl, hsh, hne⟩ := hrel
    rw [HR.out] at hnx
    cases R' with
    | nil => exact absurd rfl hne
    | cons r R2 =>
      obtain ⟨q1, q2, q3, q4, q5⟩ := hok.2.1 r.cl (by simp [stN])
      rcases hL : r.cl.L with _ | ⟨⟨k, x⟩, L⟩
      · exact absurd hL q1
      have hk := q3 (k, x) (by simp [hL])
      simp only at hk
      obtain ⟨b, o, rfl, hb, hc⟩ := hr.spot (by simp)
      obtain ⟨x0, x1, x2, x3⟩ := hc 0 (by simp)
      simp at x0 x1 x2 x3
      have hits := hr.its r (by simp)
      obtain ⟨b1, o1, hA1, hb1, hit⟩ := hits.rd.2.2.2 (List.length_pos_iff.2 q1)
      have i1 := hit 0 (.int .i64 k) (by rw [hL]; simp [cellsI])
      have i2 := hit 1 (.int .i64 x) (by rw [hL]; simp [cellsI])
      simp at i1
      rw [hA1, hL] at x3
      simp only [List.length_cons] at x3
      obtain ⟨_, _, g2, _, g4, gf⟩ := hr.cells
      have hl24 : (r :: R2).length ≤ 1024 := by have := hok.1; simp [stN] at this ⊢; omega
      have hcap := hr.ring.cap
      have hcap9 := hr.ring.c_le
      have hring := hr.ring
      have hcut := hring.cut (i := 1) (j := (r :: R2).length) (by simp) (Nat.le_refl _) (A' := if c' = 1 then some ⟨b, o, none⟩ else some ⟨b, o + 4, none⟩) (by
        intro h
        rw [if_neg (by simp at h; simp at hcap; omega)]
        simp [Addr.add_lit])
      rw [List.take_of_length_le (by rw [cellsN_len]; exact Nat.le_refl _), cellsN_drop] at hcut
      simp only [List.length_cons, Nat.add_sub_cancel, List.drop_succ_cons, List.drop_zero] at hcut
      obtain ⟨AC, hAC⟩ : ∃ AC, (if c' = 1 then some ⟨b, o, none⟩ else some ⟨b, o + 4, none⟩ : Option Addr) = AC := ⟨_, rfl⟩
      rw [hAC] at hcut
      simp only [List.length_cons] at g4 hl24 hcap
      obtain ⟨m2, hm2⟩ : ∃ m2 : Nat, R2.length = m2 := ⟨_, rfl⟩
      rw [hm2] at g4 hl24 hcap hcut
      obtain ⟨rn, hrn⟩ : ∃ rn, r.cl.n = rn := ⟨_, rfl⟩
      obtain ⟨rcr, hrcr⟩ : ∃ rcr, r.cl.cr = rcr := ⟨_, rfl⟩
      obtain ⟨rt, hrt⟩ : ∃ rt, r.t = rt := ⟨_, rfl⟩
      obtain ⟨rcc, hrcc⟩ : ∃ rcc, r.cc = rcc := ⟨_, rfl⟩
      obtain ⟨m, hm⟩ : ∃ m : Nat, L.length = m := ⟨_, rfl⟩
      rw [hrn] at x0
      rw [hrcr] at x1 q4 q5
      rw [hrt] at x2
      rw [hrcc, hm] at x3
      have hcc9 := hits.rd.c_le
      have hccl := hits.rd.cap.1
      rw [hrcc] at hcc9 hccl
      rw [hL, List.length_cons, hm] at hccl
      have xa := ext_alloc wr (.cells #[.int .i64 rn, .int .i64 rcr, .bool rt, .slice (some ⟨b1, o1, none⟩) (m + 1) rcc] 75)
      have bf := Blk.new wr 75 #[.int .i64 rn, .int .i64 rcr, .bool rt, .slice (some ⟨b1, o1, none⟩) (m + 1) rcc]
      obtain ⟨wa, hwa⟩ : ∃ wa, wr.alloc (.cells #[.int .i64 rn, .int .i64 rcr, .bool rt, .slice (some ⟨b1, o1, none⟩) (m + 1) rcc] 75) = wa := ⟨_, rfl⟩
      rw [hwa] at xa bf
      have hwsz : wr.heap.size < wa.heap.size := by rw [← hwa]; simp
      have hwle : w.heap.size ≤ wr.heap.size := hsh.size
      obtain ⟨fb, hfb⟩ : ∃ fb, wr.heap.size = fb := ⟨_, rfl⟩
      rw [hfb] at bf hwsz hwle
      have HCUT := hid hcut
      have HRR := hid hr
      have HNX := hid hnx
      have HOK := hid hok
      have HKN := hid hkn
      have HBL := hid hbl
      have HSH := hid hsh
      have HITS := hid hits
      have HA1 := hid hA1
      have HLL := hid hL
      have HM2 := hid hm2
      have HRN := hid hrn
      have HRCR := hid hrcr
      have HRT := hid hrt
      have HRCC := hid hrcc
      have HM := hid hm
      have XA := hid xa
      have BF := hid bf
      have X2 := hid x2
      clear hr hnx hok hkn hbl hsh hne hits hit hA1 hL hb hc hm2 hrn hrcr hrt hrcc hm xa bf q1 q2 q3 hring hcut hb1
      go_upto_region 3 with (fail)
      have HFB := hid hfb
      have HWA := hid hwa
      clear hfb hwa
      have hdst : OwnG isOne (wa.alloc (.cells #[] 75)) w.heap.size 75 4 (some ⟨wa.heap.size, 0, none⟩) 0 0 [] := own_none wa _ _ _ (by omega)
      have xe := ext_alloc wa (.cells #[] 75)
      have hsrc := HCUT.out.ext (ext_trans XA.out xe)
      obtain ⟨_, _, _, _, ga4, gaf⟩ := ((HRR.out.ext XA.out).ext xe).cells
      simp only [List.length_cons] at ga4
      rw [HM2.out] at ga4
      clear g2 g4 gf x0 x1 x2 x3 i1 i2
      go_upto_if 29 with (at_builtin; go_must (refine wpList_append_g (ok := isOne) rfl (.tmp 20) (.tmp 25) 70 rfl w.heap.size 75 i0 (.agg #[.int .i64 0, .int .i64 0, .bool false, .slice none 0 0]) 4 48 Try.underlying70 hi hz0 hz1 hz2 rfl (by decide) (by intro u hu; simp [Value.cells] at hu; rcases hu with rfl | rfl | rfl | rfl <;> exact rfl) (fun _ h => h) rfl hdst rfl hsrc (cellsN_one _) (by omega) (by unfold maxLen; omega) (by simp; omega) ?_; intro A6 c6 w6 o6 g6 n6; have X6 : Hid (Ext wr w6) := hid (ext_trans XA.out (below_of_grown xe (by simp) g6 (fun g hg => (by simp at hg; omega)))); have XB6 := (below_of_grown xe (by simp) g6 (fun g hg => (by simp at hg; omega))); have B6 := BF.out.ext XB6; have b2 := B6.cell 2; have bff := B6.frozen; simp at b2; have B6 := hid B6; have O6 := hid o6; have N6 : Hid (∀ k, blk A6 = some k → fb < k) := hid (fun k hk => (by rcases n6 with n6 | n6 <;> (rw [n6] at hk; simp at hk; omega))); clear o6 g6 n6 XB6 xe hsrc hdst ga4 gaf))
      have r6 := HRR.out.ext X6.out
      obtain ⟨_, _, g2, _, g4, gf⟩ := r6.cells
      have b1' := B6.out.cell 1
      simp at b1'
      have hgfb : ¬ g = fb := by
        have := HRR.out.top.lt
        have := HFB.out
        omega
      have hw1 : IntKind.i64.wrap (rcr + p.quantum) = rcr + p.quantum := IntWalk.i64_in _ (by omega)
      have hw2 : wrap64 (rcr + p.quantum) = rcr + p.quantum := IntWalk.wrap64_in _ (by omega)
      have R6 := hid r6
      clear r6
      go_cut [] (fun wx => CutN2 w wr g fb p (some ⟨b, o, none⟩) c' (r :: R2) A6 c6 R2 rn (if rt then rcr else rcr + p.quantum) (some ⟨b1, o1, none⟩) (m + 1) rcc wx)
      case first =>
        have hO6 : OwnG isOne w6 w.heap.size 75 4 A6 R2.length c6 (cellsN R2) := by
          have := O6.out
          rw [HM2.out]
          simpa using this
        have hO6 := hid hO6
        cases rt
        · go_wp2_with fail
          go_region
          all_goals
            go_wp2_with fail
            go_meet
            have hs2 : Shy (fun j => j = fb) w6 ((w6.setCell ⟨fb, 1, none⟩ (.int .i64 (rcr + p.quantum))).setCell ⟨fb, 2, none⟩ (.bool true)) := (set_shy fb 1 _ w6).set (b := fb) (fun _ => rfl) 2 _
            have hb7 := ((B6.out.set_ 1 (.int .i64 (rcr + p.quantum))).set_ 2 (.bool true)).drew
            have hfb' := HFB.out
            refine ⟨(R6.out.shy hs2 hgfb (fun j hj e => ?_) (fun q hq j hj e => ?_)).ext (ext_drewN _ 1), (Shy.ownG hs2 hO6.out fun j hj e => ?_).ext (ext_drewN _ 1), by simpa using hb7, ?_⟩
            · obtain ⟨j', h1, h2⟩ := HRR.out.ring.lt (by simp)
              rw [hj] at h1
              injection h1 with h1
              omega
            · have := (HRR.out.its q hq).lt j hj
              omega
            · have := N6.out j hj
              omega
            · have e1 : Below wr.heap.size wr (w6.setCell ⟨fb, 1, none⟩ (.int .i64 (rcr + p.quantum))) := Below.setCell X6.out (Nat.le_of_eq hfb') _
              have e2 : Below wr.heap.size wr ((w6.setCell ⟨fb, 1, none⟩ (.int .i64 (rcr + p.quantum))).setCell ⟨fb, 2, none⟩ (.bool true)) := Below.setCell e1 (Nat.le_of_eq hfb') _
              exact e2.drew
        · go_wp2_with fail
          go_meet
          exact ⟨R6.out, hO6.out, B6.out, X6.out⟩
      case rest =>
        obtain ⟨r7, o7, b7, x7⟩ := hcut
        obtain ⟨cr, hcr⟩ : ∃ cr, (if rt = true then rcr else rcr + p.quantum) = cr := ⟨_, rfl⟩
        rw [hcr] at b7
        have hcrb : 0 ≤ cr ∧ cr ≤ 16384 := by rw [← hcr]; split <;> omega
        have hits7 := OwnO.shy (U := fun _ => False) (Shy.of_ext x7) HITS.out fun _ _ h => h
        have hits7r := hits7.rd
        rw [HA1.out, HLL.out] at hits7r
        obtain ⟨b1', o1', hA1', hb1', hit⟩ := hits7r.2.2.2 (by simp)
        injection hA1' with hA1'
        injection hA1' with z1 z2
        subst z1; subst z2
        have i1 := hit 0 (.int .i64 k) (by simp [cellsI])
        have i2 := hit 1 (.int .i64 x) (by simp [cellsI])
        simp at i1
        have p1 := b7.cell 1
        have p2 := b7.cell 2
        have p3 := b7.cell 3
        have pf := b7.frozen
        simp at p1 p2 p3
        have xt := ext_alloc wc (.cells #[.int .i64 k, .int .i64 x] 77)
        have bt := Blk.new wc 77 #[.int .i64 k, .int .i64 x]
        have hfbw : fb < wc.heap.size := b7.lt
        obtain ⟨ib, hib⟩ : ∃ ib, wc.heap.size = ib := ⟨_, rfl⟩
        rw [hib] at bt hfbw
        have R8 := hid (r7.ext xt)
        have O8 := hid (o7.ext xt)
        have B8 := hid (b7.ext xt)
        have X8 := hid (ext_trans x7 xt)
        have T8 := hid bt
        have HCR := hid hcr
        have HI8 : Hid (OwnO isOne (wc.alloc (.cells #[.int .i64 k, .int .i64 x] 77)) 77 2 r.A r.cl.L.length r.cc (cellsI r.cl.L)) := hid (OwnO.shy (U := fun _ => False) (Shy.of_ext xt) hits7 fun _ _ h => h)
        obtain ⟨w8, hw8⟩ : ∃ w8, wc.alloc (.cells #[.int .i64 k, .int .i64 x] 77) = w8 := ⟨_, rfl⟩
        rw [hw8] at R8 O8 B8 X8 T8 HI8
        have hw8s : ib < w8.heap.size := T8.out.lt
        clear r7 o7 b7 x7 hits7 hits7r hit hb1' xt bt hcr g2 g4 gf b1' b2 bff
        go_upto_region 8 with (fail)
        have HW8 := hid hw8
        have HIB := hid hib
        clear hw8 hib i1 i2 p1 p2 p3 pf
        obtain ⟨_, _, g2, _, g4, gf⟩ := R8.out.cells
        simp only [List.length_cons] at g4
        rw [HM2.out] at g4
        have p0 := B8.out.cell 0
        have p1 := B8.out.cell 1
        have p2 := B8.out.cell 2
        have p3 := B8.out.cell 3
        have pf := B8.out.frozen
        simp at p0 p1 p2 p3
        obtain ⟨t0, t1, tf⟩ := T8.out.two
        have hif : ¬ ib = fb := by omega
        have hfi : ¬ fb = ib := by omega
        have hgi : ¬ g = ib := by
          have h1 := HRR.out.top.lt
          have h2 := HFB.out
          omega
        have hfg : ¬ fb = g := fun e => hgfb e.symm
        by_cases hf : cr < k
        · have hrt : rt = true := by
            cases rt
            · have := HCR.out
              simp at this
              omega
            · rfl
          have hrd4 := rd_four w8 (.int .i64 rn) (.int .i64 cr) (.bool false) (.slice (some ⟨b1, o1, none⟩) (m + 1) rcc) 75
          go_upto_region 9 with (fail)
          have s9 := set_shy fb 2 (.bool false) w8
          have hb9 := B8.out.set_ 2 (.bool false)
          have r9 := R8.out.shy s9 hgfb (fun j hj e => (by
            obtain ⟨j', h1, h2⟩ := HRR.out.ring.lt (by simp)
            rw [hj] at h1
            injection h1 with h1
            have := HFB.out
            omega)) (fun q hq j hj e => (by
            have := (HRR.out.its q hq).lt j hj
            have := HFB.out
            omega))
          have o9 := Shy.ownG s9 O8.out fun j hj e => (by
            have := N6.out j hj
            omega)
          have x9 : Ext wr (w8.setCell ⟨fb, 2, none⟩ (.bool false)) := Below.setCell X8.out (Nat.le_of_eq HFB.out) _
          simp at hb9
          have y0 := hb9.cell 0
          have y1 := hb9.cell 1
          have y2 := hb9.cell 2
          have y3 := hb9.cell 3
          simp at y0 y1 y2 y3
          rw [HM2.out] at o9
          have hG9 : Hid (Shy (fun j => j = g ∨ False) wr wr) := hid (Shy.refl _)
          go_upto_region 10 with (fail)
          obtain ⟨w9, hw9⟩ : ∃ w9, w8.setCell ⟨fb, 2, none⟩ (.bool false) = w9 := ⟨_, rfl⟩
          rw [hw9] at hb9 r9 o9 x9 y0 y1 y2 y3 s9 ⊢
          have hf9 := hb9.frozen
          obtain ⟨_, _, _, _, z4, zf⟩ := r9.cells
          simp only [List.length_cons] at z4
          rw [HM2.out] at z4
          have xl := ext_alloc w9 (.cells #[.int .i64 rn, .int .i64 cr, .bool false, .slice (some ⟨b1, o1, none⟩) (m + 1) rcc] 75)
          have hsrc := rd_four w9 (.int .i64 rn) (.int .i64 cr) (.bool false) (.slice (some ⟨b1, o1, none⟩) (m + 1) rcc) 75
          have hdst := o9.ext xl
          have hwsz : w.heap.size ≤ (w9.alloc (.cells #[.int .i64 rn, .int .i64 cr, .bool false, .slice (some ⟨b1, o1, none⟩) (m + 1) rcc] 75)).heap.size := by
            have h1 := x9.size
            have h2 := HFB.out
            simp
            omega
          have R9 := hid r9
          have X9 := hid x9
          have HL := hid xl
          have HW9 := hid hw9
          have OA := hid o9
          clear p0 p1 p2 p3 pf t0 t1 tf g2 g4 gf hw9 r9 x9 s9 hb9 o9
          go_wp2_with (at_builtin; go_must (refine wpList_append_g (ok := isOne) rfl (.tmp 50) (.tmp 52) 70 rfl w.heap.size 75 i0 (.agg #[.int .i64 0, .int .i64 0, .bool false, .slice none 0 0]) 4 48 Try.underlying70 hi hz0 hz1 hz2 rfl (by decide) (by intro u hu; simp [Value.cells] at hu; rcases hu with rfl | rfl | rfl | rfl <;> exact rfl) (fun _ h => h) rfl hdst rfl hsrc (by intro u hu; simp at hu; rcases hu with rfl | rfl | rfl | rfl <;> exact rfl) (by omega) (by unfold maxLen; omega) hwsz ?_; intro A10 c10 w10 o10 g10 n10; have S10 : Hid (Shy (fun j => blk A6 = some j) w9 w10) := hid ((Shy.of_ext HL.out).trans (shy_of_grown g10) fun _ _ h => h); have T10 := R9.out.top.shy S10.out (fun e => (by have h1 := N6.out g e; have h2 := HRR.out.top.lt; have h3 := HFB.out; omega)); have tf10 := T10.frozen; have t104 := T10.cell 4; simp at t104; have O10 := hid o10; clear o10 g10 n10 hdst hsrc z4 zf y0 y1 y2 y3 hf9))
          have hcr3 : cr = rcr := by have := HCR.out; rw [hrt] at this; simp at this; exact this.symm
          have hrA : ∀ j, blk A6 = some j → fb < j := N6.out
          have hitlt : ∀ q ∈ r :: R2, ∀ j, blk q.A = some j → ¬ blk A6 = some j := fun q hq j hj e => by
            have h1 := (HRR.out.its q hq).lt j hj
            have h2 := hrA j e
            have h3 := HFB.out
            omega
          obtain ⟨r', hr'⟩ : ∃ r' : Ln, r' = ⟨r.cl, false, r.A, r.cc⟩ := ⟨_, rfl⟩
          have hcell : cellsN R2 ++ [Value.int .i64 rn, .int .i64 cr, .bool false, .slice (some ⟨b1, o1, none⟩) (m + 1) rcc] = cellsN (R2 ++ [r']) := by
            rw [cellsN_append, hr']
            congr 1
            simp [cellsN, HRN.out, HRCR.out, hcr3, HA1.out, HLL.out, HM.out, HRCC.out]
          have o10 := O10.out
          rw [hcell] at o10
          obtain ⟨rf, og⟩ := R9.out.place S10.out (fun e => (by have h1 := hrA g e; have h2 := HRR.out.top.lt; have h3 := HFB.out; omega)) (R' := R2 ++ [r']) (by simp [HM2.out]) o10 (fun q hq => by
            rw [List.mem_append, List.mem_singleton] at hq
            rcases hq with hq | hq
            · exact ⟨R9.out.its q (by simp [hq]), hitlt q (by simp [hq])⟩
            · rw [hq, hr']
              exact ⟨R9.out.its r (by simp), hitlt r (by simp)⟩) rfl
          have hkn2 : ∀ s ∈ R2, s.t = false := fun s hs => HKN.out s hs
          have htn : turnOf (R2 ++ [r']) = false := turn_app hkn2 (by rw [hr'])
          have hlow : r.cl.cr < headK r.cl := by simp [headK, HLL.out, HRCR.out]; omega
          have hrt2 : r.t = true := by rw [HRT.out, hrt]
          have hst : stN (R2 ++ [r']) = turned (stN (r :: R2)) := by
            unfold stN turned
            rw [htn]
            simp [hr']
          refine ⟨⟨A10, c10, R2 ++ [r'], rf, ?_, ?_, ?_, ?_, ?_, by simp⟩, ?_⟩
          · rw [hst, HR.out, ← HNX.out]
            have := next_of_turned (p := p) (rest := R2.map Ln.cl) hlow
            simp only [stN, turnOf, List.map_cons, hrt2]
            exact this.symm
          · rw [hst]
            exact turned_ok HOK.out (by simp [stN, turnOf, hrt2]) (by intro c e; simp [stN] at e; subst e; exact hlow)
          · intro s hs
            have hs' : s ∈ R2 ++ [r'] := List.mem_of_mem_tail hs
            rw [List.mem_append, List.mem_singleton] at hs'
            rcases hs' with hs' | hs'
            · exact hkn2 s hs'
            · rw [hs', hr']
          · intro q hq
            rw [List.mem_append, List.mem_singleton] at hq
            rcases hq with hq | hq
            · exact HBL.out q (by simp [hq])
            · rw [hq, hr']
              exact HBL.out r (by simp)
          · have s11 : Shy (fun j => j = g) wr (w10.setCell ⟨g, 4, none⟩ (.slice A10 (m2 + 1) c10)) := (((Shy.of_ext X9.out).trans S10.out fun j hj e => (by have h1 := hrA j e; have h3 := HFB.out; omega)) : Shy (fun j => j = g) wr w10).set (b := g) (fun _ => rfl) 4 _
            exact HSH.out.trans s11 fun _ _ e => e
          · rw [rf.turnW_of (by simp), htn, HRR.out.turnW_of (by simp)]
            simp [turnOf, hrt2]
        · obtain ⟨A', hA'⟩ : ∃ A', (if rcc = 1 then some ⟨b1, o1, none⟩ else some ⟨b1, o1 + 2, none⟩ : Option Addr) = A' := ⟨_, rfl⟩
          have hw3 : IntKind.i64.wrap (cr - k) = cr - k := IntWalk.i64_in _ (by omega)
          have s9 : Shy (fun j => j = fb) w8 ((w8.setCell ⟨fb, 1, none⟩ (.int .i64 (cr - k))).setCell ⟨fb, 3, none⟩ (.slice A' m (rcc - 1))) := (set_shy fb 1 _ w8).set (b := fb) (fun _ => rfl) 3 _
          have hb9 := (B8.out.set_ 1 (.int .i64 (cr - k))).set_ 3 (.slice A' m (rcc - 1))
          have r9 := R8.out.shy s9 hgfb (fun j hj e => (by
            obtain ⟨j', h1, h2⟩ := HRR.out.ring.lt (by simp)
            rw [hj] at h1
            injection h1 with h1
            have := HFB.out
            omega)) (fun q hq j hj e => (by
            have := (HRR.out.its q hq).lt j hj
            have := HFB.out
            omega))
          have o9 := Shy.ownG s9 O8.out fun j hj e => (by
            have := N6.out j hj
            omega)
          have t9 := T8.out.shy s9 hif
          have x9 : Ext wr ((w8.setCell ⟨fb, 1, none⟩ (.int .i64 (cr - k))).setCell ⟨fb, 3, none⟩ (.slice A' m (rcc - 1))) := Below.setCell (Below.setCell X8.out (Nat.le_of_eq HFB.out) _) (Nat.le_of_eq HFB.out) _
          obtain ⟨w9, hw9⟩ : ∃ w9, (w8.setCell ⟨fb, 1, none⟩ (.int .i64 (cr - k))).setCell ⟨fb, 3, none⟩ (.slice A' m (rcc - 1)) = w9 := ⟨_, rfl⟩
          simp at hb9
          rw [hw9] at s9 hb9 r9 o9 t9 x9
          rw [HM2.out] at o9
          have hci : OwnO isOne w9 77 2 A' m (rcc - 1) (cellsI L) := by
            have h1 := OwnO.shy s9 HI8.out (fun j hj e => (by
              have h2 := (HRR.out.its r (by simp)).lt j hj
              have := HFB.out
              omega))
            rw [HA1.out, HLL.out, HRCC.out, List.length_cons, HM.out] at h1
            have h2 := cutO h1 HM.out
            rw [hA', HM.out] at h2
            exact h2
          have hAblk : blk A' = blk r.A := by rw [HA1.out, ← hA']; split <;> rfl
          have hitlt : ∀ q ∈ r :: R2, ∀ j, blk q.A = some j → j < fb := fun q hq j hj => by
            have h1 := (HRR.out.its q hq).lt j hj
            have h3 := HFB.out
            omega
          have hkn2 : ∀ s ∈ R2, s.t = false := fun s hs => HKN.out s hs
          have hsv : res = (if L = [] then ⟨R2.map Ln.cl, false⟩ else ⟨⟨rn, cr - k, L⟩ :: R2.map Ln.cl, true⟩, some (rn, x)) := by
            rw [← HNX.out, ← HRN.out, ← HCR.out, ← HRCR.out, ← HRT.out]
            have hff : ¬ (r.t = true ∧ r.cl.cr < headK r.cl) := by
              rintro ⟨h4, h5⟩
              have := HCR.out
              rw [← HRT.out, h4] at this
              simp [headK, HLL.out] at h5 this
              have := HRCR.out
              omega
            have := next_fits (p := p) (rest := R2.map Ln.cl) hff
            rw [DR.serve_cons HLL.out] at this
            exact this
          have HSV := hid hsv
          have HCI := hid hci
          have HAB := hid hAblk
          have HIT := hid hitlt
          have HK2 := hid hkn2
          clear hsv hci hAblk hitlt hkn2
          obtain ⟨_, _, _, _, z4, zf⟩ := r9.cells
          simp only [List.length_cons] at z4
          rw [HM2.out] at z4
          have y0 := hb9.cell 0
          have y1 := hb9.cell 1
          have y2 := hb9.cell 2
          have y3 := hb9.cell 3
          have yf := hb9.frozen
          simp at y0 y1 y2 y3
          obtain ⟨t90, t91, t9f⟩ := t9.two
          have R9 := hid r9
          have O9 := hid o9
          have X9 := hid x9
          have T9 := hid t9
          have HB9 := hid hb9
          have HA' := hid hA'
          clear r9 o9 x9 t9 hb9 s9
          by_cases hm0 : m = 0
          · subst hm0
            have hLe : L = [] := List.eq_nil_of_length_eq_zero HM.out
            go_upto_region 14 with (fail)
            have HW9 := hid hw9
            clear hw9 g2 g4 gf p0 p1 p2 p3 pf t0 t1 tf hA'
            go_wp2_with fail
            go_quiet (fail)
            go_wp2_with fail
            refine bodyPost_ret (by simp [results, Try.results21, go_sem]; rfl) rfl ?_
            have hv := HSV.out
            rw [if_pos hLe] at hv
            refine ⟨by rw [← HTV.out, hv]; rfl, ?_⟩
            rw [hv]
            obtain ⟨rf, og⟩ := R9.out.place (V := fun _ => False) (Shy.refl w9) id (R' := R2) HM2.out O9.out (fun q hq => ⟨R9.out.its q (by simp [hq]), fun _ _ h => h⟩) rfl
            have htn : turnOf R2 = false := by
              cases R2 with
              | nil => rfl
              | cons s R2 => exact HK2.out s (by simp)
            refine ⟨A6, c6, R2, rf.ext (ext_drewN _ _), og.ext (ext_drewN _ _), by simp [stN, htn], fun s hs => HK2.out s (List.mem_of_mem_tail hs), fun q hq => HBL.out q (by simp [hq]), ?_⟩
            have s11 : Shy (fun j => j = g) wr (w9.setCell ⟨g, 4, none⟩ (.slice A6 m2 c6)) := (Shy.of_ext X9.out : Shy (fun j => j = g) wr w9).set (b := g) (fun _ => rfl) 4 _
            exact (HSH.out.trans s11 fun _ _ e => e).trans (Shy.of_ext (U := fun _ => False) (ext_drewN _ _)) fun _ _ h => h.elim
          · have hmz : (((m : Nat) : Int) == 0) = false := by simp; omega
            go_upto_region 15 with (fail)
            have HW9 := hid hw9
            clear hw9 g2 g4 gf p0 p1 p2 p3 pf t0 t1 tf hA'
            have xl := ext_alloc w9 (.cells #[.int .i64 rn, .int .i64 (cr - k), .bool true, .slice A' m (rcc - 1)] 75)
            have hw9s : w.heap.size ≤ w9.heap.size := by
              have h1 := X9.out.size
              have h2 := HFB.out
              omega
            have hdst := own_four w9 (.int .i64 rn) (.int .i64 (cr - k)) (.bool true) (.slice A' m (rcc - 1)) 75 w.heap.size hw9s (by intro u hu; simp at hu; rcases hu with rfl | rfl | rfl | rfl <;> exact rfl)
            have hsrc := (O9.out.ext xl).rd
            have HL := hid xl
            clear xl
            go_wp2_with (at_builtin; go_must (refine wpList_append_g (ok := isOne) rfl (.tmp 76) (.tmp 77) 70 rfl w.heap.size 75 i0 (.agg #[.int .i64 0, .int .i64 0, .bool false, .slice none 0 0]) 4 48 Try.underlying70 hi hz0 hz1 hz2 rfl (by decide) (by intro u hu; simp [Value.cells] at hu; rcases hu with rfl | rfl | rfl | rfl <;> exact rfl) (fun _ h => h) rfl hdst rfl hsrc (cellsN_one _) (by omega) (by unfold maxLen; omega) (by simp; omega) ?_; intro A10 c10 w10 o10 g10 n10; have X10 : Hid (Ext w9 w10) := hid (below_of_grown HL.out (by simp) g10 (fun g hg => (by simp at hg; omega))); have T10 := R9.out.top.ext X10.out; have tf10 := T10.frozen; have t104 := T10.cell 4; simp at t104; have b10 := HB9.out.ext X10.out; have b100 := b10.cell 0; have b10f := b10.frozen; simp at b100; have i10 := T9.out.ext X10.out; have i101 := i10.cell 1; have i10f := i10.frozen; simp at i101; have O10 := hid o10; clear o10 g10 n10 hdst hsrc z4 zf y0 y1 y2 y3 yf t90 t91 t9f T10 b10 i10))
            go_quiet (fail)
            go_wp2_with fail
            refine bodyPost_ret (by simp [results, Try.results21, go_sem]; rfl) rfl ?_
            have hv := HSV.out
            rw [if_neg (by intro e; have := HM.out; rw [e] at this; simp at this; omega)] at hv
            refine ⟨by rw [← HTV.out, hv]; rfl, ?_⟩
            rw [hv]
            obtain ⟨r', hr'⟩ : ∃ r' : Ln, r' = ⟨⟨rn, cr - k, L⟩, true, A', rcc - 1⟩ := ⟨_, rfl⟩
            have hcell : [Value.int .i64 rn, .int .i64 (cr - k), .bool true, .slice A' m (rcc - 1)] ++ cellsN R2 = cellsN (r' :: R2) := by
              rw [hr']
              simp [cellsN, HM.out]
            have o10 := O10.out
            rw [hcell] at o10
            obtain ⟨rf, og⟩ := R9.out.place (V := fun _ => False) (Shy.of_ext X10.out) id (R' := r' :: R2) (by simp [HM2.out]; omega) o10 (fun q hq => by
              rcases List.mem_cons.1 hq with rfl | hq
              · rw [hr']
                simp only [HM.out]
                exact ⟨HCI.out, fun _ _ h => h⟩
              · exact ⟨R9.out.its q (by simp [hq]), fun _ _ h => h⟩) rfl
            refine ⟨A10, c10, r' :: R2, rf.ext (ext_drewN _ _), og.ext (ext_drewN _ _), by simp [stN, turnOf, hr'], fun s hs => HK2.out s (by simpa using hs), fun q hq => ?_, ?_⟩
            · rcases List.mem_cons.1 hq with rfl | hq
              · obtain ⟨y, hy, e⟩ := HBL.out r (by simp)
                refine ⟨y, hy, ?_⟩
                rw [hr', ← e]
                exact HAB.out
              · exact HBL.out q (by simp [hq])
            · have s11 : Shy (fun j => j = g) wr (w10.setCell ⟨g, 4, none⟩ (.slice A10 (1 + m2) c10)) := (Shy.of_ext (ext_trans X9.out X10.out) : Shy (fun j => j = g) wr w10).set (b := g) (fun _ => rfl) 4 _
              exact (HSH.out.trans s11 fun _ _ e => e).trans (Shy.of_ext (U := fun _ => False) (ext_drewN _ _)) fun _ _ h => h.elim
end
end Go.Proofs.Ytkogagpahidenaa

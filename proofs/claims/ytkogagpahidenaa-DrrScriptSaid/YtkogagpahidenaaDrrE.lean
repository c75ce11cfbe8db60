/- Layer 21: Next. -/
import Derived.Test.YtkogagpahidenaaDrrD
import Derived.Test.YtkogagpahidenaaDrrP
import Derived.Deep.CutBlock
import Derived.Deep.DeepCutAuto
import Derived.IntWalk
namespace Go.Proofs.Ytkogagpahidenaa
open Go.BK Go.BK.DR Go.RowKit Go.Maps
set_option linter.unusedVariables false
def tellV : Option (Int × Int) → Value
  | none => .tuple #[.int .i64 0, .int .i64 0, .bool false]
  | some x => .tuple #[.int .i64 x.1, .int .i64 x.2, .bool true]
def stR (R : List Row) (t : Bool) : St := ⟨R.map Row.cl, t⟩
/-- What has become of the scheduler: in the state s now. -/
def ToSt (w w' : World) (g lb mb : Nat) (p : Par) (R : List Row) (s : St) : Prop :=
  ∃ R', QR w' g lb mb p R' s.turn (lenS s) ∧ s.ring = R'.map Row.cl ∧ (∀ k, ownsQ g lb mb R' k → ownsQ g lb mb R k ∨ w.heap.size ≤ k) ∧ Shy (ownsQ g lb mb R) w w'
def turnM (g : Nat) (w : World) : Nat := match w.cell? ⟨g, 6, none⟩ with
  | some (.bool true) => 1
  | _ => 0
def NextRel (w : World) (g lb mb : Nat) (p : Par) (R : List Row) (t : Bool) (n : Int) (wr : World) : Prop :=
  ∃ R' t', QR wr g lb mb p R' t' n ∧ nextS p (stR R' t') = nextS p (stR R t) ∧ (stR R' t').ok p ∧ n = lenS (stR R' t') ∧ (∀ k, ownsQ g lb mb R' k → ownsQ g lb mb R k) ∧ Shy (ownsQ g lb mb R) w wr
/-- Where the first one's turn has begun. -/
def CutN (w wr : World) (g lb mb : Nat) (p : Par) (R R2 : List Row) (rn rcr : Int) (L : List (Int × Int)) (re rc : Nat) (A : Option Addr) (cc : Nat) (t' : Bool) (n : Int) (wx : World) : Prop :=
  QR wx g lb mb p (⟨⟨rn, if t' then rcr else rcr + p.quantum, L⟩, re, rc, A, cc⟩ :: R2) true n ∧ Shy (ownsQ g lb mb R) w wx
theorem len_cons (r : Row) (R2 : List Row) (t : Bool) : lenS (stR (r :: R2) t) = r.cl.L.length + lenS (stR R2 t) := by simp [lenS, stR]
theorem cut_len {b o cc : Nat} {w : World} {m : Nat} {L : List (Int × Int)} {x : Int × Int} (h : OwnO isOne w 66 2 (some ⟨b, o, none⟩) (m + 1) cc (cellsI (x :: L))) (hm : L.length = m) :
    OwnO isOne w 66 2 (if cc = 1 then some ⟨b, o, none⟩ else some ⟨b, o + 2, none⟩) L.length (cc - 1) (cellsI L) := by
  have h1 := h.cut (i := 1) (by omega) (by omega) (A' := if cc = 1 then some ⟨b, o, none⟩ else some ⟨b, o + 2, none⟩) (by
    by_cases hc : cc = 1
    · exact .inr ⟨hc, by rw [if_pos hc]⟩
    · exact .inl (by rw [if_neg hc]; simp [Addr.add_lit]))
  rw [hm]
  simpa [cellsI] using h1
section
variable {w : World} {g lb mb : Nat} {p : Par} {R R1 R2 : List Row} {r : Row} {t : Bool} {n : Int}
theorem owns_sub {R R' : List Row} (h : ∀ r ∈ R', ∃ s ∈ R, r.e = s.e ∧ r.c = s.c ∧ (∀ k, blk r.A = some k → blk s.A = some k)) (k : Nat) (hk : ownsQ g lb mb R' k) : ownsQ g lb mb R k := by
  rcases hk with h1 | h1 | h1 | ⟨r, hr, h1⟩
  · exact .inl h1
  · exact .inr (.inl h1)
  · exact .inr (.inr (.inl h1))
  · obtain ⟨s, hs, e1, e2, e3⟩ := h r hr
    refine .inr (.inr (.inr ⟨s, hs, ?_⟩))
    rcases h1 with h1 | h1 | h1
    · exact .inl (h1.trans e1)
    · exact .inr (.inl (h1.trans e2))
    · exact .inr (.inr (e3 k h1))
/-- The first item of the first one is told: the memory. -/
theorem QR.serve (h : QR w g lb mb p (r :: R2) t n) {k x : Int} {L : List (Int × Int)} {b o : Nat} (hL : r.cl.L = (k, x) :: L) (hA : r.A = some ⟨b, o, none⟩) (cr : Int) {w2 : World} {t' : Bool}
    (h2 : w2 = ((w.setCell ⟨r.c, 1, none⟩ (.int .i64 cr)).setCell ⟨r.c, 2, none⟩ (.slice (if r.cc = 1 then some ⟨b, o, none⟩ else some ⟨b, o + 2, none⟩) L.length (r.cc - 1)))) :
    QR w2 g lb mb p (⟨⟨r.cl.n, cr, L⟩, r.e, r.c, if r.cc = 1 then some ⟨b, o, none⟩ else some ⟨b, o + 2, none⟩, r.cc - 1⟩ :: R2) t n ∧ Shy (fun k => k = r.c) w w2 := by
  subst h2
  have hr : r ∈ r :: R2 := by simp
  have s1 := (set_shy r.c 1 (.int .i64 cr) w).set (b := r.c) (fun _ => rfl) 2 (.slice (if r.cc = 1 then some ⟨b, o, none⟩ else some ⟨b, o + 2, none⟩) L.length (r.cc - 1))
  have ho := h.own r hr
  rw [hL, hA] at ho
  simp only [List.length_cons] at ho
  refine ⟨QR.row (R1 := []) h cr L _ _ (s1.mono fun k _ e => .inl e) ?_ ?_ (.inl ?_), s1⟩
  · have := ((h.cl r hr).set_ 1 (.int .i64 cr)).set_ 2 (.slice (if r.cc = 1 then some ⟨b, o, none⟩ else some ⟨b, o + 2, none⟩) L.length (r.cc - 1))
    simpa using this
  · refine OwnO.shy s1 (cut_len ho rfl) fun k hk e => ?_
    have h3 := (h.row_other hr hr).2.2
    rw [hA] at h3
    subst e
    split at hk <;> exact h3 hk
  · rw [hA]; split <;> rfl
set_option maxHeartbeats 4000000 in
set_option maxRecDepth 100000 in
theorem next_any (h : QR w g lb mb p R t n) (hp : p.ok) (hs : (stR R t).ok p) (hn : n = lenS (stR R t)) :
    Calls Try.prog 13 #[.pointer (some ⟨g, 0, none⟩)] w fun e w' => e = .returned (tellV (nextS p (stR R t)).2) ∧ ToSt w w' g lb mb p R (nextS p (stR R t)).1 := by
  obtain ⟨res, hres⟩ : ∃ res, nextS p (stR R t) = res := ⟨_, rfl⟩
  have C := hid (none_no h)
  have hlen := len_le hs hp
  have st : NextRel w g lb mb p R t n w := ⟨R, t, h, rfl, hs, hn, fun _ h => h, Shy.refl _⟩
  have HST := hid st
  have HR := hid hres
  rw [hres]
  have HP := hid hp
  have HLEN : Hid (n ≤ 65536) := hid (by omega)
  have HLT := hid h.lt
  obtain ⟨tv, htv⟩ : ∃ tv, tellV res.2 = tv := ⟨_, rfl⟩
  have HTV := hid htv
  rw [htv]
  clear h hs hn hlen st hres hp htv
  go_enter Try.func13, Try.ntmps13
  go_wp2_with fail
  refine C.out.mono ?_
  rintro e _ ⟨rfl, rfl⟩
  go_wp2_with fail
  go_loopw [] (fun wr => NextRel w g lb mb p R t n wr) (fun wr => turnM g wr)
  case atStart => exact HST.out
  case round =>
    obtain ⟨R', t', q, hnx, hok, hnn, hown, hsh⟩ := hrel
    rw [HR.out] at hnx
    have CL := chain_len q.ring
    simp only [List.length_map, pt] at CL
    obtain ⟨_, _, c2, _, c4, _, c6, c7, cf⟩ := q.cells
    cases R' with
    | nil =>
      simp only [List.length_nil] at CL
      have CL := hid CL
      have hz : ((0 : Nat) : Int) = 0 := rfl
      have e1 : res = (⟨[], t'⟩, none) := by rw [← hnx]; rfl
      have HE := hid e1
      have Q := hid q
      have HNN := hid hnn
      have HOWN := hid hown
      have HSH := hid hsh
      clear q hnx hok hnn hown hsh e1 hz
      go_wp2_with fail
      refine CL.out.mono ?_
      rintro e _ ⟨rfl, rfl⟩
      go_wp2_with fail
      refine bodyPost_ret (by simp [results, Try.results13, go_sem]; rfl) rfl ?_
      refine ⟨by rw [← HTV.out, HE.out]; rfl, ?_⟩
      rw [HE.out]
      have h0 := HNN.out
      exact ⟨[], by have := Q.out; rw [h0] at this; exact this, rfl, fun k hk => .inl (HOWN.out k hk), HSH.out⟩
    | cons r R2 =>
      obtain ⟨q1, q2, q3, q4, q5⟩ := hok.2.1 r.cl (by simp [stR])
      rcases hL : r.cl.L with _ | ⟨⟨k, x⟩, L⟩
      · exact absurd hL q1
      have hk := q3 (k, x) (by simp [hL])
      simp only at hk
      obtain ⟨b, o, hA, hb, hit⟩ := q.items (r := r) (by simp) q1
      obtain ⟨i1, i2⟩ := hit 0 (by rw [hL]; simp)
      rw [hL] at i1 i2
      simp at i1 i2
      obtain ⟨d0, d1, d2, df⟩ := q.ccells (r := r) (by simp)
      rw [hA, hL] at d2
      simp only [List.length_cons] at d2
      have hcc := (q.own r (by simp)).rd.cap
      have hcc9 := (q.own r (by simp)).rd.c_le
      rw [hL] at hcc
      simp only [List.length_cons] at hcc
      have hcr := r.cl.cr
      have hpp := HP.out
      unfold Par.ok at hpp
      have kcg : ¬ r.c = g := (q.g_other.2.2 r (by simp)).2.1.symm
      have kgc : ¬ g = r.c := (q.g_other.2.2 r (by simp)).2.1
      have hl0 : (0 : Int) < ((r :: R2).length : Int) := by simp
      have CF := chain_front q.ring
      have CO := of_row q (r := r) (by simp)
      obtain ⟨lr, hlr⟩ : ∃ lr : Nat, (r :: R2).length = lr := ⟨_, rfl⟩
      rw [hlr] at hl0 CL
      have CF : Calls Try.prog 35 #[.pointer (some ⟨lb, 0, none⟩)] wr fun e w' => e = .returned (.pointer (some ⟨r.e, 0, none⟩)) ∧ wr = w' := CF
      obtain ⟨rc, hrc⟩ : ∃ rc, r.c = rc := ⟨_, rfl⟩
      obtain ⟨re, hre⟩ : ∃ re, r.e = re := ⟨_, rfl⟩
      obtain ⟨rcr, hrcr⟩ : ∃ rcr, r.cl.cr = rcr := ⟨_, rfl⟩
      obtain ⟨rn, hrn⟩ : ∃ rn, r.cl.n = rn := ⟨_, rfl⟩
      have hmx : rcr < p.most + p.quantum := by rw [← hrcr]; exact q5
      have hmn : 0 ≤ rcr := by rw [← hrcr]; exact q4
      rw [hrcr] at d1
      simp only [hrc] at d1 df kcg kgc CO
      simp only [hre] at CF CO
      have cutp : ∀ (W : World) (cr' : Int), Shy (fun k => k = rc) wr W → Blk W rc 63 #[.int .i64 rn, .int .i64 cr', .slice r.A r.cl.L.length r.cc] → QR W g lb mb p (⟨⟨rn, cr', r.cl.L⟩, re, rc, r.A, r.cc⟩ :: R2) t' n := by
        intro W cr' hs hb'
        have ho := OwnO.shy hs (q.own r (by simp)) fun k hk e => by
          subst e
          rw [← hrc] at hk
          exact (q.row_other (r := r) (s := r) (by simp) (by simp)).2.2 hk
        have := QR.row (R1 := []) q cr' r.cl.L r.A r.cc (hs.mono fun k _ e => .inl (e.trans hrc.symm)) (by rw [hrc, hrn]; exact hb') ho (.inl rfl)
        rw [hrc, hre, hrn] at this
        exact this
      have hcl : Blk wr rc 63 #[.int .i64 rn, .int .i64 rcr, .slice r.A r.cl.L.length r.cc] := by
        have := q.cl r (by simp)
        rw [hrc, hrn, hrcr] at this
        exact this
      have hrce : ∀ k, k = rc → ownsQ g lb mb R k := fun k e => hown k (.inr (.inr (.inr ⟨r, by simp, .inr (.inl (e.trans hrc.symm))⟩)))
      have cutp := hid cutp
      have HCL := hid hcl
      have CL := hid CL
      have CF := hid CF
      have CO := hid CO
      have HSH := hid hsh
      have HRCE := hid hrce
      have Q := hid q
      clear q i1 i2 d0 d2 hcl hsh hrce hit hb
      go_wp2_with fail
      refine CL.out.mono ?_
      rintro e _ ⟨rfl, rfl⟩
      go_wp2_with fail
      refine CF.out.mono ?_
      rintro e _ ⟨rfl, rfl⟩
      go_wp2_with fail
      refine CO.out.mono ?_
      rintro e _ ⟨rfl, rfl⟩
      go_upto_if 27 with (fail)
      go_cut [] (fun wx => CutN w wr g lb mb p R R2 rn rcr r.cl.L re rc r.A r.cc t' n wx)
      case first =>
        clear hnx hok hnn hown hL q1 q2 q3 hA hrc hre hrn hrcr hlr q4 q5
        cases t'
        · have hw1 : IntKind.i64.wrap (rcr + p.quantum) = rcr + p.quantum := IntWalk.i64_in _ (by omega)
          have hw2 : wrap64 (rcr + p.quantum) = rcr + p.quantum := IntWalk.wrap64_in _ (by omega)
          go_wp2_with fail
          go_region
          all_goals
            go_wp2_with fail
            go_meet
            have hb' := HCL.out.set_ 1 (.int .i64 (rcr + p.quantum))
            have q' := ((cutp.out _ (rcr + p.quantum) (set_shy rc 1 _ wr) (by simpa using hb')).set_t true).ext (ext_drewN _ 1)
            refine ⟨q', ?_⟩
            refine (HSH.out.trans (((Shy.refl (U := fun k => k = rc ∨ k = g) wr).set (b := rc) (fun _ => .inl rfl) 1 _).set (b := g) (fun _ => .inr rfl) 6 _) fun k _ e => ?_).trans (Shy.of_ext (U := fun _ => False) (ext_drewN _ 1)) fun _ _ h => h.elim
            rcases e with e | e
            · exact HRCE.out k e
            · exact .inl e
        · go_wp2_with fail
          go_meet
          exact ⟨cutp.out _ rcr (Shy.refl _) HCL.out, HSH.out⟩
      case rest =>
        obtain ⟨q, s0⟩ := hcut
        obtain ⟨cr, hcr2⟩ : ∃ cr, (if t' = true then rcr else rcr + p.quantum) = cr := ⟨_, rfl⟩
        rw [hcr2] at q
        have hcrb : 0 ≤ cr ∧ cr ≤ 16384 := by rw [← hcr2]; split <;> omega
        have c6' := c6
        clear c2 c4 c6 c7 cf d1 df hl0 kcg kgc
        obtain ⟨_, _, _, _, c4, _, c6, c7, cf⟩ := q.cells
        obtain ⟨d0, d1, d2, df⟩ := q.ccells (r := ⟨⟨rn, cr, r.cl.L⟩, re, rc, r.A, r.cc⟩) (by simp)
        obtain ⟨b', o', hA', hb, hit⟩ := q.items (r := ⟨⟨rn, cr, r.cl.L⟩, re, rc, r.A, r.cc⟩) (by simp) q1
        simp only at d0 d1 d2 df hA' hb hit
        rw [hA] at hA' d2
        injection hA' with hA'
        injection hA' with e1 e2
        subst e1; subst e2
        rw [hL] at d2
        simp only [List.length_cons] at d2
        obtain ⟨i1, i2⟩ := hit 0 (by rw [hL]; simp)
        rw [hL] at i1 i2
        simp at i1 i2
        obtain ⟨m, hm⟩ : ∃ m : Nat, L.length = m := ⟨_, rfl⟩
        obtain ⟨rcc, hrcc⟩ : ∃ rcc, r.cc = rcc := ⟨_, rfl⟩
        rw [hm] at d2 hcc
        rw [hrcc] at d2 hcc hcc9
        have kcg : ¬ rc = g := (q.g_other.2.2 _ (List.mem_cons_self)).2.1.symm
        have kgc : ¬ g = rc := (q.g_other.2.2 _ (List.mem_cons_self)).2.1
        have hm1 : n = (m : Int) + 1 + lenS (stR R2 t') := by rw [hnn, len_cons, hL, List.length_cons, hm]; omega
        have hn1 : 1 ≤ n := by omega
        have hn2 : n ≤ 65536 := HLEN.out
        have hclt : rc < wc.heap.size := (q.cl _ (List.mem_cons_self)).lt
        have hglt := q.top.lt
        have xa := ext_alloc wc (.cells #[.int .i64 k, .int .i64 x] 66)
        have bt := Blk.new wc 66 #[.int .i64 k, .int .i64 x]
        have qa := hid (q.ext xa)
        have sa := hid (s0.trans (Shy.of_ext (U := fun _ => False) xa) fun _ _ h => h.elim)
        have HM := hid hm
        have HRCC := hid hrcc
        have HCR := hid hcr2
        have HHL := hid hL
        have HHA := hid hA
        have HNX := hid hnx
        have HOK := hid hok
        have HNN := hid hnn
        have HOWN := hid hown
        have HC6 := hid c6'
        have HRCR := hid hrcr
        have HRN := hid hrn
        have HRC := hid hrc
        have HRE := hid hre
        have HQC := hid q
        have HM1 := hid hm1
        clear hnx hok hnn hown hL hA hrc hre hrn hrcr hlr q4 q5 q1 q2 q3 hcr2 c6' hm hrcc q s0 xa hm1 hit
        go_upto_region 10 with (fail)
        have hsz0 : wc.heap.size < (wc.alloc (.cells #[.int .i64 k, .int .i64 x] 66)).heap.size := by simp
        have hcn : ∀ j, ownsQ g lb mb (⟨⟨rn, cr, r.cl.L⟩, re, rc, r.A, r.cc⟩ :: R2) j → j < wc.heap.size := fun j hj => HQC.out.lt j hj
        generalize hwa : wc.alloc (.cells #[.int .i64 k, .int .i64 x] 66) = wa at qa sa bt hsz0 ⊢
        obtain ⟨tb, htb⟩ : ∃ tb, wc.heap.size = tb := ⟨_, rfl⟩
        simp only [htb] at bt hsz0 hcn hclt hglt ⊢
        have HCN := hid hcn
        have BT := hid bt
        clear c4 c6 c7 cf d0 d1 d2 df i1 i2 hb htb hwa hcn
        by_cases hf : cr < k
        · have ht' : t' = true := by
            cases t'
            · have := HCR.out
              simp at this
              omega
            · rfl
          obtain ⟨_, _, _, _, c4, _, c6, c7, cf⟩ := qa.out.cells
          obtain ⟨d0, d1, d2, df⟩ := qa.out.ccells (r := ⟨⟨rn, cr, r.cl.L⟩, re, rc, r.A, r.cc⟩) (by simp)
          simp only at d0 d1 d2 df
          obtain ⟨t0, t1, tf⟩ := bt.two
          clear bt
          go_quiet (fail)
          generalize hw2 : World.drewN wa _ = w2
          have x2 : Ext wa w2 := by rw [← hw2]; exact ext_drewN _ _
          have Q2 := hid ((qa.out.ext x2).set_t false)
          have X2 := hid x2
          obtain ⟨_, _, _, _, c4', _, c6', _, cf'⟩ := (qa.out.ext x2).cells
          have CB := hid (chain_back (A := []) (x := eltR ⟨⟨rn, cr, r.cl.L⟩, re, rc, r.A, r.cc⟩) (B := R2.map eltR) (by simpa using Q2.out.ring))
          have S2 := hid (set_shy g 6 (.bool false) w2)
          clear hw2 x2 c4 c6 c7 cf d0 d1 d2 df t0 t1 tf
          go_wp2_with fail
          refine CB.out.mono ?_
          rintro e w3 ⟨rfl, hr3, hs3⟩
          have Q3 := hid (QR.rot Q2.out (by simpa using hs3) (by simpa using hr3))
          have S3 := hid hs3
          clear hr3 hs3
          go_wp2_with fail
          go_roundw
          case rel =>
            have hcr3 : cr = r.cl.cr := by have := HCR.out; rw [ht'] at this; simp at this; rw [← this, HRCR.out]
            have hcl : (⟨⟨rn, cr, r.cl.L⟩, re, rc, r.A, r.cc⟩ : Row) = r := by
              have h1 := HRN.out; have h2 := HRC.out; have h3 := HRE.out
              subst h1; subst h2; subst h3; subst hcr3
              rfl
            rw [hcl] at Q3 S3
            subst ht'
            have hlow : r.cl.cr < headK r.cl := by simp [headK, HHL.out]; omega
            refine ⟨R2 ++ [r], false, Q3.out, ?_, ?_, ?_, ?_, ?_⟩
            · rw [HR.out, ← HNX.out]
              have := next_of_turned (p := p) (rest := R2.map Row.cl) hlow
              simpa [turned, stR] using this.symm
            · have := turned_ok (p := p) HOK.out rfl (by intro c e; simp [stR] at e; subst e; exact hlow)
              simpa [turned, stR] using this
            · rw [HNN.out]; simp [lenS, stR]; omega
            · intro k hk
              refine HOWN.out k (owns_sub (fun s hs => ⟨s, by simp at hs ⊢; exact hs.symm, rfl, rfl, fun _ h => h⟩) k hk)
            · refine ((sa.out.trans (Shy.of_ext (U := fun _ => False) X2.out) fun _ _ h => h.elim).trans S2.out fun k _ e => .inl e).trans S3.out fun k _ e => ?_
              rcases e with e | e
              · exact .inr (.inl e)
              · have e' : k ∈ ((r :: R2).map eltR).map Prod.fst := by simpa using e
                obtain ⟨s, hs', e'⟩ := mem_elt e'
                exact HOWN.out k (.inr (.inr (.inr ⟨s, hs', .inl e'⟩)))
          case measure =>
            have m1 : turnM g w3 = 0 := by
              unfold turnM
              rw [Q3.out.top.cell 6]
              rfl
            have m2 : turnM g wr = 1 := by
              unfold turnM
              rw [HC6.out, ht']
            omega
        · obtain ⟨_, _, _, _, c4, _, c6, c7, cf⟩ := qa.out.cells
          obtain ⟨d0, d1, d2, df⟩ := qa.out.ccells (r := ⟨⟨rn, cr, r.cl.L⟩, re, rc, r.A, r.cc⟩) (by simp)
          simp only at d0 d1 d2 df
          obtain ⟨t0, t1, tf⟩ := bt.two
          clear bt
          go_quiet (fail)
          generalize hw2 : World.drewN wa _ = w2
          have x2 : Ext wa w2 := by rw [← hw2]; exact ext_drewN _ _
          have Q2 := hid (qa.out.ext x2)
          have X2 := hid x2
          have B2 := hid (BT.out.ext x2)
          clear hw2 x2 c4 c6 c7 cf d0 d1 d2 df t0 t1 tf
          obtain ⟨_, _, _, _, c4, _, c6, c7, cf⟩ := Q2.out.cells
          obtain ⟨d0, d1, d2, df⟩ := Q2.out.ccells (r := ⟨⟨rn, cr, r.cl.L⟩, re, rc, r.A, r.cc⟩) (by simp)
          simp only at d0 d1 d2 df
          rw [HHA.out, HHL.out] at d2
          simp only [List.length_cons] at d2
          rw [HM.out, HRCC.out] at d2
          obtain ⟨t0, t1, tf⟩ := B2.out.two
          have htc : ¬ tb = rc := by omega
          have hct : ¬ rc = tb := by omega
          have hw1 : IntKind.i64.wrap (cr - k) = cr - k := IntWalk.i64_in _ (by omega)
          have hw3 : wrap64 (cr - k) = cr - k := IntWalk.wrap64_in _ (by omega)
          obtain ⟨A', hA'⟩ : ∃ A', (if rcc = 1 then some ⟨b, o, none⟩ else some ⟨b, o + 2, none⟩ : Option Addr) = A' := ⟨_, rfl⟩
          have QS : ∀ W, W = (((w2.setCell ⟨rc, 1, none⟩ (.int .i64 (cr - k))).setCell ⟨rc, 2, none⟩ (.slice A' m (rcc - 1))).setCell ⟨g, 7, none⟩ (.int .i64 (n - 1))).drew →
              QR W g lb mb p (⟨⟨rn, cr - k, L⟩, re, rc, A', rcc - 1⟩ :: R2) true (n - 1) ∧ Shy (ownsQ g lb mb R) w W ∧ Blk W tb 66 #[.int .i64 k, .int .i64 x] ∧ W.heap.size = w2.heap.size := by
            rintro W rfl
            obtain ⟨q5, s5⟩ := Q2.out.serve (k := k) (x := x) (L := L) (b := b) (o := o) HHL.out HHA.out (cr - k) (t' := true) rfl
            simp only [HRCC.out, HM.out, hA'] at q5 s5
            have q6 := (q5.set_n (n - 1)).ext (ext_drewN _ 1)
            refine ⟨q6, ?_, ?_, by simp [World.setCell, World.drew]⟩
            · refine (((sa.out.trans (Shy.of_ext (U := fun _ => False) X2.out) fun _ _ h => h.elim).trans s5 fun j _ e => HRCE.out j e).set (b := g) (fun _ => .inl rfl) 7 _).trans (Shy.of_ext (U := fun _ => False) (ext_drewN _ 1)) fun _ _ h => h.elim
            · exact (((B2.out.far (p := ⟨rc, 1, none⟩) htc _).far (p := ⟨rc, 2, none⟩) htc _).far (p := ⟨g, 7, none⟩) (by simp only; omega) _).drewN 1
          have QS := hid QS
          have hrow : ∀ j, ownsQ g lb mb (⟨⟨rn, cr - k, L⟩, re, rc, A', rcc - 1⟩ :: R2) j → ownsQ g lb mb R j := by
            intro j hj
            refine HOWN.out j (owns_sub (fun s hs => ?_) j hj)
            rcases List.mem_cons.1 hs with rfl | hs
            · refine ⟨r, by simp, HRE.out.symm, HRC.out.symm, fun k hk => ?_⟩
              rw [HHA.out]
              simp only at hk
              rw [← hA'] at hk
              split at hk <;> exact hk
            · exact ⟨s, by simp [hs], rfl, rfl, fun _ h => h⟩
          have hsv : res = (if L = [] then ⟨R2.map Row.cl, false⟩ else ⟨⟨rn, cr - k, L⟩ :: R2.map Row.cl, true⟩, some (rn, x)) := by
            rw [← HNX.out, ← HRN.out, ← HCR.out, ← HRCR.out]
            have hff : ¬ (t' = true ∧ r.cl.cr < headK r.cl) := by
              rintro ⟨rfl, h5⟩
              have := HCR.out
              simp [headK, HHL.out] at h5 this
              have := HRCR.out
              omega
            have := next_fits (p := p) (rest := R2.map Row.cl) hff
            rw [serve_cons HHL.out] at this
            exact this
          have HSV := hid hsv
          have HROW := hid hrow
          clear hsv hrow
          go_wp2_with fail
          go_region
          all_goals
            by_cases hm0 : m = 0
            · subst hm0
              have hLe : L = [] := List.eq_nil_of_length_eq_zero HM.out
              go_upto_region 16 with (fail)
              obtain ⟨q5, s5, b5, z5⟩ := QS.out _ rfl
              generalize (((w2.setCell ⟨rc, 1, none⟩ (.int .i64 (cr - k))).setCell ⟨rc, 2, none⟩ (.slice A' 0 (rcc - 1))).setCell ⟨g, 7, none⟩ (.int .i64 (n - 1))).drew = w3 at q5 s5 b5 z5 ⊢
              have CV := hid (leaves_row (R1 := []) q5)
              obtain ⟨e0, e1, e2, ef⟩ := q5.ccells (r := ⟨⟨rn, cr - k, L⟩, re, rc, A', rcc - 1⟩) (by simp)
              simp only [HM.out] at e0 e1 e2 ef
              have k5 := q5.cl ⟨⟨rn, cr - k, L⟩, re, rc, A', rcc - 1⟩ (by simp)
              have htn : ¬ ownsL g lb mb (⟨⟨rn, cr - k, L⟩, re, rc, A', rcc - 1⟩ :: R2) tb := by
                intro hj
                refine Nat.lt_irrefl tb (HCN.out tb ?_)
                rcases hj with h | h | h | ⟨s, hs, h⟩
                · exact .inl h
                · exact .inr (.inl h)
                · exact .inr (.inr (.inl h))
                · rcases List.mem_cons.1 hs with rfl | hs
                  · exact .inr (.inr (.inr ⟨_, List.mem_cons_self, .inl h⟩))
                  · exact .inr (.inr (.inr ⟨s, by simp [hs], .inl h⟩))
              have hrn : ¬ ownsL g lb mb (⟨⟨rn, cr - k, L⟩, re, rc, A', rcc - 1⟩ :: R2) rc := by
                intro hj
                rcases hj with h | h | h | ⟨s, hs, h⟩
                · exact kcg h
                · exact (q5.lb_other.2 ⟨⟨rn, cr - k, L⟩, re, rc, A', rcc - 1⟩ (by simp)).2.1 h.symm
                · exact (q5.mb_other ⟨⟨rn, cr - k, L⟩, re, rc, A', rcc - 1⟩ (by simp)).2.1 h
                · exact (q5.row_other (r := ⟨⟨rn, cr - k, L⟩, re, rc, A', rcc - 1⟩) (by simp) hs).1 h.symm
              have HLe := hid hLe
              have S5 := hid s5
              have K5 := hid k5
              have B5 := hid b5
              have HTN := hid htn
              have HRN2 := hid hrn
              have Q5 := hid q5
              clear q5 s5 b5 z5 k5 htn hrn hLe hA' c4 c6 c7 cf d0 d1 d2 df t0 t1 tf
              go_wp2_with fail
              refine CV.out.mono ?_
              rintro e w4 ⟨rfl, q6, s6⟩
              have k6 := K5.out.shy s6 HRN2.out
              have b6 := B5.out.shy s6 HTN.out
              have f0 := k6.cell 0
              have ff := k6.frozen
              have g1 := b6.cell 1
              have gf := b6.frozen
              simp at f0 g1
              have Q6 := hid q6
              have S6 := hid s6
              clear q6 s6 k6 b6 e0 e1 e2 ef
              go_wp2_with fail
              go_quiet (fail)
              go_wp2_with fail
              refine bodyPost_ret (by simp [results, Try.results13, go_sem]; rfl) rfl ?_
              have hv := HSV.out
              rw [if_pos HLe.out] at hv
              refine ⟨by rw [← HTV.out, hv]; rfl, ?_⟩
              rw [hv]
              have hl : n - 1 = (lenS ⟨R2.map Row.cl, false⟩ : Nat) := by
                have := HM1.out
                simp [lenS, stR] at this ⊢
                omega
              refine ⟨R2, ?_, rfl, fun j hj => .inl (HROW.out j (owns_sub (fun s hs => ⟨s, by simp [hs], rfl, rfl, fun _ h => h⟩) j hj)), ?_⟩
              · have q7 := Q6.out.ext (ext_drewN w4 nq)
                simp only [List.nil_append, if_true] at q7
                rw [hl] at q7
                exact q7
              · exact (S5.out.trans (S6.out.mono fun j _ e => HROW.out j e.to) fun _ _ h => h).trans (Shy.of_ext (U := fun _ => False) (ext_drewN w4 nq)) fun _ _ h => h.elim
            · have hmz : (((m : Nat) : Int) == 0) = false := by simp; omega
              go_upto_region 16 with (fail)
              obtain ⟨q5, s5, b5, z5⟩ := QS.out _ rfl
              generalize (((w2.setCell ⟨rc, 1, none⟩ (.int .i64 (cr - k))).setCell ⟨rc, 2, none⟩ (.slice A' m (rcc - 1))).setCell ⟨g, 7, none⟩ (.int .i64 (n - 1))).drew = w3 at q5 s5 b5 z5 ⊢
              obtain ⟨f0, f1, f2, ff⟩ := q5.ccells (r := ⟨⟨rn, cr - k, L⟩, re, rc, A', rcc - 1⟩) (by simp)
              simp only [HM.out] at f0 f1 f2 ff
              have g1 := b5.cell 1
              have gf := b5.frozen
              simp at g1
              have S5 := hid s5
              have Q5 := hid q5
              clear q5 s5 b5 z5 hA' c4 c6 c7 cf d0 d1 d2 df t0 t1 tf
              go_wp2_with fail
              go_quiet (fail)
              go_wp2_with fail
              refine bodyPost_ret (by simp [results, Try.results13, go_sem]; rfl) rfl ?_
              have hv := HSV.out
              rw [if_neg (by intro e; have := HM.out; rw [e] at this; simp at this; omega)] at hv
              refine ⟨by rw [← HTV.out, hv]; rfl, ?_⟩
              rw [hv]
              have hl : n - 1 = (lenS ⟨⟨rn, cr - k, L⟩ :: R2.map Row.cl, true⟩ : Nat) := by
                have := HM1.out
                have := HM.out
                simp [lenS, stR] at *
                omega
              refine ⟨⟨⟨rn, cr - k, L⟩, re, rc, A', rcc - 1⟩ :: R2, ?_, rfl, fun j hj => .inl (HROW.out j hj), ?_⟩
              · have q7 := Q5.out.ext (ext_drewN w3 nq)
                rw [hl] at q7
                exact q7
              · exact S5.out.trans (Shy.of_ext (U := fun _ => False) (ext_drewN w3 nq)) fun _ _ h => h.elim
end
end Go.Proofs.Ytkogagpahidenaa

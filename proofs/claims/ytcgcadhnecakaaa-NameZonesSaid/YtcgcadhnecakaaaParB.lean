/- name.Parse's parts: label. -/
import Derived.Test.YtcgcadhnecakaaaParA
import Derived.Test.YtcgcadhnecakaaaKitU
import Derived.Test.YtcgcadhnecakaaaKStep
import Derived.StillTailTactics
import Derived.Deep.RegionHeld3
import Derived.Deep.RegionLaw
namespace Go.Proofs.Ytcgcadhnecakaaa
open Go.BK Go.RowKit Go.BK.NM
set_option linter.unusedVariables false

def oneG (r : Bs) (p : Nat) : Except Flt (Bs × Nat) := match r with
  | [] => .ok ([], p)
  | c :: _ => if c = 46 then .error (4, p) else match labG r p with
    | .error f => .error f
    | .ok (b, e) => if 63 < b.length then .error (3, p) else .ok (b, e)
theorem parG_step (n : Nat) (c : UInt8) (r : Bs) (p : Nat) : parG (n + 1) (c :: r) p = match oneG (c :: r) p with
    | .error f => .error f
    | .ok (b, e) => consL b (parG n ((c :: r).drop (e - p + 1)) (e + 1)) := by
  unfold oneG
  by_cases h : c = 46
  · subst h; rw [parG_dot]; rfl
  · rw [parG_go h]
    simp only [if_neg h]
    rcases labG (c :: r) p with f | ⟨b, e⟩
    · rfl
    · simp only
      by_cases h2 : 63 < b.length
      · rw [if_pos h2, if_pos h2]
      · rw [if_neg h2, if_neg h2]

theorem pass3 {G : Prop} {P : Option Addr → Nat → World → Prop} (H : Option Addr → Nat → World → Prop) (key : ∀ a b c, H a b c → P a b c) (main : (∀ a b c, H a b c → P a b c) → G) : G := main key
/-- A parser at block g: its text, where it stands, its labels. -/
def ParP (w : World) (g base : Nat) (s : Bs) (k : Nat) (L : List Bs) : Prop :=
  ∃ A c, Blk w g 71 #[.string (str s), .int .i64 k, .slice A L.length c] ∧ OwnG okS w base 9 1 A L.length c (L.map strV) ∧ g < base ∧ base ≤ w.heap.size

def LabPost (s : Bs) (g base : Nat) (L : List Bs) (w : World) (x : Ending) (w' : World) : Except Flt (Bs × Nat) → Prop
  | .error f => x = thrown f ∧ Shy (fun k => k = g ∨ base ≤ k) w w'
  | .ok (b, e) => x = .returned (.tuple #[]) ∧ ParP w' g base s (e + 1) (L ++ [b]) ∧ Shy (fun k => k = g ∨ base ≤ k) w w'

def posOf (g : Nat) (w : World) : Nat := match w.cell? ⟨g, 1, none⟩ with | some v => (intOf v).toNat | none => 0

theorem posOf_blk {w : World} {g p : Nat} {a v : Value} (h : Blk w g 71 #[a, .int .i64 p, v]) : posOf g w = p := by
  unfold posOf
  rw [show w.cell? ⟨g, 1, none⟩ = some (.int .i64 p) from h.cell 1]
  simp [intOf]
/-- Between two rounds of label. -/
def LabRel (w : World) (s : Bs) (g k : Nat) (A : Option Addr) (c n : Nat) (bv : Value) (wr : World) : Prop :=
  ∃ (done : Bs) (p : Nat) (Ab : Option Addr) (cb : Nat), bv = .slice Ab done.length cb ∧ k ≤ p ∧ p ≤ s.length ∧ done.length ≤ p ∧
    Hid (BK.Own wr w.heap.size 5 Ab cb done) ∧ Hid (Blk wr g 71 #[.string (str s), .int .i64 p, .slice A n c]) ∧ Hid (labG (s.drop k) k = prep done (labG (s.drop p) p)) ∧ Hid (Shy (fun j => j = g) w wr)

theorem prep_nil (x : Except Flt (Bs × Nat)) : prep [] x = x := by rcases x with _ | ⟨_, _⟩ <;> rfl
theorem prep_more (done : Bs) (c : UInt8) (x : Except Flt (Bs × Nat)) : prep done (more c x) = prep (done ++ [c]) x := by rcases x with _ | ⟨_, _⟩ <;> simp [prep, more]
theorem str_get {s : Bs} {p : Nat} {d : UInt8} {r : Bs} (h : s.drop p = d :: r) {t : ByteArray} (ht : t = str s) (hp : p < t.size) : t[p]'hp = d := by
  subst ht
  have h1 : (str s).data[p]? = some (s.getD p 0) := str_lt (by rw [str_size] at hp; omega)
  have h2 : s.getD p 0 = d := by
    have := congrArg (fun l => l.getD 0 0) h
    simpa using this
  rw [h2] at h1
  exact (Array.getElem?_eq_some_iff.1 h1).2

set_option maxHeartbeats 8000000 in
set_option maxRecDepth 100000 in
theorem label_in (s : Bs) (k g base : Nat) (L : List Bs) (w : World) (h : ParP w g base s k L) (hk : k < s.length) (hs : s.length ≤ 2000000) (hL : L.length ≤ 2000000) :
    Calls Try.prog 45 #[.pointer (some ⟨g, 0, none⟩)] w fun x w' => LabPost s g base L w x w' (oneG (s.drop k) k) := by
  obtain ⟨A, c, hB, hO, hgb, hbw⟩ := h
  obtain ⟨d, r, hr⟩ : ∃ d r, s.drop k = d :: r := by
    rcases hd : s.drop k with _ | ⟨d, r⟩
    · have := congrArg List.length hd; simp at this; omega
    · exact ⟨d, r, rfl⟩
  obtain ⟨t, ht⟩ : ∃ t, t = str s := ⟨_, rfl⟩
  have htz : t.size = s.length := by rw [ht, str_size]
  have hks : k < t.size := by omega
  have hki : (k : Int) < (t.size : Int) := by omega
  have b0 : t[k]'hks = d := str_get hr ht hks
  have tz9 : t.size ≤ 2000000 := by omega
  have d256 := d.toNat_lt
  rw [hr]
  have HB := hid hB
  have HO := hid hO
  have HT := hid ht
  obtain ⟨rc, rf⟩ := hB.rules
  have c0 := rc 0
  have c1 := rc 1
  simp only [List.getElem?_toArray, List.getElem?_cons_zero, List.getElem?_cons_succ] at c0 c1
  rw [← ht] at c0
  have FA := hid (fun (p : Value) (e : Int) (q : Nat) (W : World) => fails_in p e q W)
  have HTZ := hid htz
  clear hB hO ht rc htz
  by_cases h46 : d = 46
  · subst h46
    have ho : oneG (46 :: r) k = .error (4, k) := rfl
    rw [ho]
    have HR := hid hr
    clear ho hr
    show Calls _ _ _ _ fun x w' => x = thrown (4, k) ∧ Shy (fun k => k = g ∨ base ≤ k) w w'
    go_enter Try.func45, Try.ntmps45
    go_wp2_with fail
    go_quiet (fail)
    go_wp2_with fail
    (with_reducible refine (FA.out _ 4 k _).mono ?_)
    rintro e w1 ⟨rfl, hw⟩
    subst hw
    unfold thrown
    go_wp2_with fail
    exact ⟨rfl, rfl, Shy.of_ext (ext_drewN _ _)⟩
  · have ho : oneG (d :: r) k = match labG (d :: r) k with
      | .error f => .error f
      | .ok (b, e) => if 63 < b.length then .error (3, k) else .ok (b, e) := by unfold oneG; simp only [if_neg h46]
    have HO1 := hid ho
    have HR := hid hr
    obtain ⟨R, hR⟩ : ∃ R, R = oneG (d :: r) k := ⟨_, rfl⟩
    rw [← hR]
    have HRR := hid hR
    have z46 : ((d.toNat : Int) == 46) = false := by
      rw [beq_eq_false_iff_ne]; intro e; apply h46; rw [← UInt8.toNat_inj]; show d.toNat = 46; omega
    obtain ⟨i0, hi, hz0, hz1, hz2⟩ := info_parts (show (Try.prog.info? 5).map (fun i => (i.zero, i.size, i.bytes)) = some (some (.int .u8 0), 1, 1) by kernel_rfl)
    have HI := hid hi
    clear ho hr hR h46 hi
    go_enter Try.func45, Try.ntmps45
    go_wp2_with fail
    go_quiet (fail)
    go_wp2_with fail
    go_loopw [3] (fun bv wr => LabRel w s g k A c L.length bv wr) (fun _ wr => s.length - posOf g wr)
    case atStart => exact ⟨[], k, none, 0, rfl, Nat.le_refl _, by omega, by simp, hid (BK.Own.nil _ _ _), hid (HB.out.ext (ext_drewN _ _)), hid (prep_nil _).symm, hid (Shy.of_ext (ext_drewN _ _))⟩
    case round =>
      obtain ⟨done, p, Ab, cb, rfl, hkp, hps, hdl, OB, BG, LG, SH⟩ := hrel
      clear c0 c1 rf b0 hki hks
      obtain ⟨rc, rf⟩ := BG.out.rules
      have c0 := rc 0
      have c1 := rc 1
      have c2 := rc 2
      simp only [List.getElem?_toArray, List.getElem?_cons_zero, List.getElem?_cons_succ] at c0 c1 c2
      rw [← HT.out] at c0
      clear rc
      rcases hdr : s.drop p with _ | ⟨x, r1⟩
      · have hpe : p = s.length := by
          have := congrArg List.length hdr
          simp at this
          omega
        have zlt : decide ((p : Int) < (t.size : Int)) = false := by rw [decide_eq_false_iff_not, HTZ.out]; omega
        have zlt' : decide (p < t.size) = false := by rw [decide_eq_false_iff_not, HTZ.out]; omega
        have HDR := hid hdr
        clear hdr hpe
        have hlg : labG (d :: r) k = .ok (done, p) := by
          have h1 := LG.out
          rw [HR.out] at h1
          rw [h1, HDR.out, labG_nil]
          simp [prep]
        have hRR : R = if 63 < done.length then .error (3, k) else .ok (done, p) := by rw [HRR.out, HO1.out, hlg]
        have HR2 := hid hRR
        clear hlg hRR
        by_cases h63 : 63 < done.length
        · have y1 : decide ((63 : Int) < (done.length : Int)) = true := by rw [decide_eq_true_iff]; omega
          have y1' : decide (63 < done.length) = true := by rw [decide_eq_true_iff]; omega
          have hRe : R = .error (3, k) := by rw [HR2.out, if_pos h63]
          have HRE := hid hRe
          clear hRe
          go_wp2_with fail
          go_quiet (fail)
          go_wp2_with fail
          (with_reducible refine (FA.out _ 3 k _).mono ?_)
          rintro e w5 ⟨rfl, hw⟩
          subst hw
          unfold thrown
          go_wp2_with fail
          refine ⟨rfl, ?_⟩
          rw [HRE.out]
          exact ⟨rfl, (SH.out.mono fun j _ h => .inl h).ext (ext_drewN _ _)⟩
        · have y1 : decide ((63 : Int) < (done.length : Int)) = false := by rw [decide_eq_false_iff_not]; omega
          have y1' : decide (63 < done.length) = false := by rw [decide_eq_false_iff_not]; omega
          have hRe : R = .ok (done, p) := by rw [HR2.out, if_neg h63]
          have HRE := hid hRe
          have hd63 : done.length ≤ 63 := by omega
          clear hRe h63
          go_wp2_with fail
          go_quiet (fail)
          go_wp2_with fail
          generalize hw2 : wr.drewN _ = w2
          have e2 : Ext wr w2 := by rw [← hw2]; exact ext_drewN _ _
          clear hw2
          obtain ⟨w3, hw3⟩ : ∃ w3, w3 = w2.setCell ⟨g, 1, none⟩ (.int .i64 ((p : Int) + 1)) := ⟨_, rfl⟩
          have B3 : Blk w3 g 71 #[.string (str s), .int .i64 ((p + 1 : Nat) : Int), .slice A L.length c] := by
            rw [hw3]; exact par_move (BG.out.ext e2) _ (by simp)
          have s3 : Shy (fun j => j = g) w w3 := by rw [hw3]; exact (SH.out.ext e2).grown (grown_of_set (grown_refl w2 (some g)) (.inl rfl) 1 _) (fun j hj _ => by cases hj; rfl)
          have hne : ∀ b, blk Ab = some b → ¬ b = g := fun b hb e => by have := (OB.out.lt b hb).1; omega
          have R3 : Rd w3 Ab cb done := by rw [hw3]; exact (OB.out.ext e2).rd.grown (grown_of_set (grown_refl w2 (some g)) (.inl rfl) 1 _) (fun _ e => by rcases hA : Ab with _ | a; rw [hA] at e; cases e; exact hne a.block (by rw [hA]; rfl) (by rw [hA] at e; simpa using e))
          have A3 : OwnG okS w3 base 9 1 A L.length c (L.map strV) := s3.ownG HO.out (fun b hb e => by have := (HO.out.lt b hb).1; omega)
          rw [← hw3]
          have hcv : (convert 53 9 (.slice Ab done.length cb)).run Try.prog w3.drew = .ok (.string (str done)) w3.drew :=
            run_convert_rd (R3.ext (ext_drew w3)) 53 5 Try.underlying53 Try.underlying5 9 Try.underlying9
          have k2 : w3.cell? ⟨g, 2, none⟩ = some (.slice A L.length c) := B3.cell 2
          have hgw : g < w3.heap.size := B3.lt
          have k2' : ∀ v, (w3.alloc (.cells #[v] 9)).cell? ⟨g, 2, none⟩ = some (.slice A L.length c) := fun v => (B3.alloc _).cell 2
          have S3 := hid s3
          have HB3 := hid B3
          have HA3 := hid A3
          have hw3s : w.heap.size ≤ w3.heap.size := s3.size
          obtain ⟨j0, ji, jz0, jz1, jz2⟩ := info_parts info_str
          have KI := hid ji
          clear hw3 e2 B3 s3 R3 A3 ji hne c0 c1 c2 rf
          have FIN := hid (fun (A1 : Option Addr) (c1 : Nat) (w5 : World) (o1 : OwnG okS w5 base 9 1 A1 (L.length + 1) c1 ((L.map strV) ++ [.string (str done)])) (g2 : w3.grownBy w5 (blk A)) => show LabPost s g base L w (.returned (.tuple #[])) (w5.setCell ⟨g, 2, none⟩ (.slice A1 (L.length + 1) c1)) R from by
            rw [HRE.out]
            have B5 := HB3.out.grown g2 (fun e => by have := (HA3.out.lt g e.symm).1; omega)
            refine ⟨rfl, ⟨A1, c1, ?_, ?_, hgb, ?_⟩, ?_⟩
            · have := B5.set_ 2 (.slice A1 (L.length + 1) c1)
              simpa using this
            · have := o1.far (p := ⟨g, 2, none⟩) hgb (.slice A1 (L.length + 1) c1)
              simpa [strV] using this
            · have := g2.size
              simp [World.setCell]
              omega
            · have s5 : Shy (fun j => j = g ∨ base ≤ j) w w5 := (S3.out.mono fun j _ h => .inl h).grown g2 (fun j hj _ => .inr (HA3.out.lt j hj).1)
              exact s5.grown (grown_of_set (grown_refl w5 (some g)) (.inl rfl) 2 _) (fun j hj _ => by cases hj; exact .inl rfl))
          go_region_law ((refine step_append_g rfl (.tmp 122) (.tmp 125) 22 rfl base 9 j0 (.string ⟨#[]⟩) 1 16 Try.underlying22 KI.out jz0 jz1 jz2 rfl (by decide) (by simp [Value.cells]; exact ⟨_, rfl⟩) (fun _ h => okS.one h) rfl (HA3.out.ext (ext_trans (ext_alloc _ _) (ext_drew _))) rfl ((RdG.single w3 _ _).ext (ext_drew _)) (by intro u hu; rw [List.mem_singleton] at hu; exact ⟨_, hu⟩) (by omega) (by unfold maxLen; omega) (by simp; omega) ?_; intro A1 c1 w5 o1 g1 n1; have g2 : w3.grownBy w5 (blk A) := grown_trans (grown_of_ext (ext_trans (ext_alloc _ _) (ext_drew _)) _) g1; have B5 := HB3.out.grown g2 (fun e => by have := (HA3.out.lt g e.symm).1; omega); have k5 : w5.cell? ⟨g, 2, none⟩ = some (.slice A L.length c) := B5.cell 2; have f5 := B5.frozen; clear B5))
          all_goals go_end0
          all_goals exact FIN.out _ _ _ o1 g2
      · have hlen := congrArg List.length hdr
        simp at hlen
        have hpt : p < t.size := by rw [HTZ.out]; omega
        have hpi : (p : Int) < (t.size : Int) := by omega
        have b0 : t[p]'hpt = x := str_get hdr HT.out hpt
        have x256 := x.toNat_lt
        have HDR := hid hdr
        clear hdr
        have zlt : decide ((p : Int) < (t.size : Int)) = true := by rw [decide_eq_true_iff]; omega
        by_cases hx46 : x = 46
        · subst hx46
          have z46 : (((46 : UInt8).toNat : Int) == 46) = true := rfl
          have z46' : (((46 : UInt8).toNat : Int) != 46) = false := rfl
          have hlg : labG (d :: r) k = .ok (done, p) := by
            have h1 := LG.out
            rw [HR.out] at h1
            rw [h1, HDR.out, labG_dot]
            simp [prep]
          have hRR : R = if 63 < done.length then .error (3, k) else .ok (done, p) := by rw [HRR.out, HO1.out, hlg]
          have HR2 := hid hRR
          clear hlg hRR
          by_cases h63 : 63 < done.length
          · have y1 : decide ((63 : Int) < (done.length : Int)) = true := by rw [decide_eq_true_iff]; omega
            have y1' : decide (63 < done.length) = true := by rw [decide_eq_true_iff]; omega
            have hRe : R = .error (3, k) := by rw [HR2.out, if_pos h63]
            have HRE := hid hRe
            clear hRe
            go_wp2_with fail
            go_quiet (fail)
            go_wp2_with fail
            (with_reducible refine (FA.out _ 3 k _).mono ?_)
            rintro e w5 ⟨rfl, hw⟩
            subst hw
            unfold thrown
            go_wp2_with fail
            refine ⟨rfl, ?_⟩
            rw [HRE.out]
            exact ⟨rfl, (SH.out.mono fun j _ h => .inl h).ext (ext_drewN _ _)⟩
          · have y1 : decide ((63 : Int) < (done.length : Int)) = false := by rw [decide_eq_false_iff_not]; omega
            have y1' : decide (63 < done.length) = false := by rw [decide_eq_false_iff_not]; omega
            have hRe : R = .ok (done, p) := by rw [HR2.out, if_neg h63]
            have HRE := hid hRe
            have hd63 : done.length ≤ 63 := by omega
            clear hRe h63
            go_wp2_with fail
            go_quiet (fail)
            go_wp2_with fail
            generalize hw2 : wr.drewN _ = w2
            have e2 : Ext wr w2 := by rw [← hw2]; exact ext_drewN _ _
            clear hw2
            obtain ⟨w3, hw3⟩ : ∃ w3, w3 = w2.setCell ⟨g, 1, none⟩ (.int .i64 ((p : Int) + 1)) := ⟨_, rfl⟩
            have B3 : Blk w3 g 71 #[.string (str s), .int .i64 ((p + 1 : Nat) : Int), .slice A L.length c] := by
              rw [hw3]; exact par_move (BG.out.ext e2) _ (by simp)
            have s3 : Shy (fun j => j = g) w w3 := by rw [hw3]; exact (SH.out.ext e2).grown (grown_of_set (grown_refl w2 (some g)) (.inl rfl) 1 _) (fun j hj _ => by cases hj; rfl)
            have hne : ∀ b, blk Ab = some b → ¬ b = g := fun b hb e => by have := (OB.out.lt b hb).1; omega
            have R3 : Rd w3 Ab cb done := by rw [hw3]; exact (OB.out.ext e2).rd.grown (grown_of_set (grown_refl w2 (some g)) (.inl rfl) 1 _) (fun _ e => by rcases hA : Ab with _ | a; rw [hA] at e; cases e; exact hne a.block (by rw [hA]; rfl) (by rw [hA] at e; simpa using e))
            have A3 : OwnG okS w3 base 9 1 A L.length c (L.map strV) := s3.ownG HO.out (fun b hb e => by have := (HO.out.lt b hb).1; omega)
            rw [← hw3]
            have hcv : (convert 53 9 (.slice Ab done.length cb)).run Try.prog w3.drew = .ok (.string (str done)) w3.drew :=
              run_convert_rd (R3.ext (ext_drew w3)) 53 5 Try.underlying53 Try.underlying5 9 Try.underlying9
            have k2 : w3.cell? ⟨g, 2, none⟩ = some (.slice A L.length c) := B3.cell 2
            have hgw : g < w3.heap.size := B3.lt
            have k2' : ∀ v, (w3.alloc (.cells #[v] 9)).cell? ⟨g, 2, none⟩ = some (.slice A L.length c) := fun v => (B3.alloc _).cell 2
            have S3 := hid s3
            have HB3 := hid B3
            have HA3 := hid A3
            have hw3s : w.heap.size ≤ w3.heap.size := s3.size
            obtain ⟨j0, ji, jz0, jz1, jz2⟩ := info_parts info_str
            have KI := hid ji
            clear hw3 e2 B3 s3 R3 A3 ji hne c0 c1 c2 rf
            have FIN := hid (fun (A1 : Option Addr) (c1 : Nat) (w5 : World) (o1 : OwnG okS w5 base 9 1 A1 (L.length + 1) c1 ((L.map strV) ++ [.string (str done)])) (g2 : w3.grownBy w5 (blk A)) => show LabPost s g base L w (.returned (.tuple #[])) (w5.setCell ⟨g, 2, none⟩ (.slice A1 (L.length + 1) c1)) R from by
              rw [HRE.out]
              have B5 := HB3.out.grown g2 (fun e => by have := (HA3.out.lt g e.symm).1; omega)
              refine ⟨rfl, ⟨A1, c1, ?_, ?_, hgb, ?_⟩, ?_⟩
              · have := B5.set_ 2 (.slice A1 (L.length + 1) c1)
                simpa using this
              · have := o1.far (p := ⟨g, 2, none⟩) hgb (.slice A1 (L.length + 1) c1)
                simpa [strV] using this
              · have := g2.size
                simp [World.setCell]
                omega
              · have s5 : Shy (fun j => j = g ∨ base ≤ j) w w5 := (S3.out.mono fun j _ h => .inl h).grown g2 (fun j hj _ => .inr (HA3.out.lt j hj).1)
                exact s5.grown (grown_of_set (grown_refl w5 (some g)) (.inl rfl) 2 _) (fun j hj _ => by cases hj; exact .inl rfl))
            go_region_law ((refine step_append_g rfl (.tmp 122) (.tmp 125) 22 rfl base 9 j0 (.string ⟨#[]⟩) 1 16 Try.underlying22 KI.out jz0 jz1 jz2 rfl (by decide) (by simp [Value.cells]; exact ⟨_, rfl⟩) (fun _ h => okS.one h) rfl (HA3.out.ext (ext_trans (ext_alloc _ _) (ext_drew _))) rfl ((RdG.single w3 _ _).ext (ext_drew _)) (by intro u hu; rw [List.mem_singleton] at hu; exact ⟨_, hu⟩) (by omega) (by unfold maxLen; omega) (by simp; omega) ?_; intro A1 c1 w5 o1 g1 n1; have g2 : w3.grownBy w5 (blk A) := grown_trans (grown_of_ext (ext_trans (ext_alloc _ _) (ext_drew _)) _) g1; have B5 := HB3.out.grown g2 (fun e => by have := (HA3.out.lt g e.symm).1; omega); have k5 : w5.cell? ⟨g, 2, none⟩ = some (.slice A L.length c) := B5.cell 2; have f5 := B5.frozen; clear B5))
            all_goals go_end0
            all_goals exact FIN.out _ _ _ o1 g2
        · have z46 : ((x.toNat : Int) == 46) = false := by
            rw [beq_eq_false_iff_ne]; intro e; apply hx46; rw [← UInt8.toNat_inj]; show x.toNat = 46; omega
          have z46' : ((x.toNat : Int) != 46) = true := by rw [bne, z46]; rfl
          by_cases hv1 : x.toNat < 33
          · have y1 : decide ((x.toNat : Int) < 33) = true := by rw [decide_eq_true_iff]; omega
            go_wp2_with fail
            go_quiet (fail)
            go_wp2_with fail
            go_quiet (fail)
            go_wp2_with fail
            generalize hw2 : wr.drewN _ = w2
            have e2 : Ext wr w2 := by rw [← hw2]; exact ext_drewN _ _
            have k1 : w2.cell? ⟨g, 1, none⟩ = some (.int .i64 p) := (BG.out.ext e2).cell 1
            clear hw2
            go_still_tail 8, (by kernel_rfl)
            change wpList _ _ _ _ _ w2.drew
            clear k1
            go_wp2_with fail
            (with_reducible refine (FA.out _ 4 p _).mono ?_)
            rintro e w5 ⟨rfl, hw⟩
            subst hw
            unfold thrown
            go_wp2_with fail
            refine ⟨rfl, ?_⟩
            have hv : vis x = false := by unfold vis; rw [decide_eq_false_iff_not]; omega
            have h2 : labG (d :: r) k = .error (4, p) := by
              have h1 := LG.out
              rw [HR.out, HDR.out, labG_bad r1 p hv] at h1
              rw [h1]; rfl
            have hRe : R = .error (4, p) := by rw [HRR.out, HO1.out, h2]
            rw [hRe]
            exact ⟨rfl, ((SH.out.mono fun j _ h => .inl h).ext e2).ext (ext_drew _)⟩
          · have y1 : decide ((x.toNat : Int) < 33) = false := by rw [decide_eq_false_iff_not]; omega
            have y1' : decide (x.toNat < 33) = false := by rw [decide_eq_false_iff_not]; omega
            by_cases hv2 : 126 < x.toNat
            · have y2 : decide ((126 : Int) < (x.toNat : Int)) = true := by rw [decide_eq_true_iff]; omega
              have y2' : decide (126 < x.toNat) = true := by rw [decide_eq_true_iff]; omega
              go_wp2_with fail
              go_quiet (fail)
              go_wp2_with fail
              go_quiet (fail)
              go_wp2_with fail
              generalize hw2 : wr.drewN _ = w2
              have e2 : Ext wr w2 := by rw [← hw2]; exact ext_drewN _ _
              have k1 : w2.cell? ⟨g, 1, none⟩ = some (.int .i64 p) := (BG.out.ext e2).cell 1
              clear hw2
              go_still_tail 8, (by kernel_rfl)
              change wpList _ _ _ _ _ w2.drew
              clear k1
              go_wp2_with fail
              (with_reducible refine (FA.out _ 4 p _).mono ?_)
              rintro e w5 ⟨rfl, hw⟩
              subst hw
              unfold thrown
              go_wp2_with fail
              refine ⟨rfl, ?_⟩
              have hv : vis x = false := by unfold vis; rw [decide_eq_false_iff_not]; omega
              have h2 : labG (d :: r) k = .error (4, p) := by
                have h1 := LG.out
                rw [HR.out, HDR.out, labG_bad r1 p hv] at h1
                rw [h1]; rfl
              have hRe : R = .error (4, p) := by rw [HRR.out, HO1.out, h2]
              rw [hRe]
              exact ⟨rfl, ((SH.out.mono fun j _ h => .inl h).ext e2).ext (ext_drew _)⟩
            · have y2 : decide ((126 : Int) < (x.toNat : Int)) = false := by rw [decide_eq_false_iff_not]; omega
              have y2' : decide (126 < x.toNat) = false := by rw [decide_eq_false_iff_not]; omega
              have hv : vis x = true := by unfold vis; rw [decide_eq_true_iff]; omega
              have HVX := hid hv
              have HX46 := hid hx46
              have hp5 : s.drop (p + 1) = r1 := by rw [← List.drop_drop, HDR.out]; rfl
              have HP5 := hid hp5
              clear hv hx46 hp5 hv1 hv2
              by_cases h92 : x = 92
              · subst h92
                have z92 : (((92 : UInt8).toNat : Int) == 92) = true := rfl
                clear z46' y1 y1' y2 y2'
                have z46' : (((92 : UInt8).toNat : Int) != 46) = true := rfl
                have hps' : p < s.length := by rw [← HTZ.out]; exact hpt
                have HPS := hid hps'
                clear hps'
                rcases hE : escS r1 p with f | ⟨xb, m⟩
                · have h2 : labG (d :: r) k = .error f := by
                    have h1 := LG.out
                    rw [HR.out, HDR.out, labG_esc, hE] at h1
                    rw [h1]; rfl
                  have hRe : R = .error f := by rw [HRR.out, HO1.out, h2]
                  have HRE := hid hRe
                  have HE := hid hE
                  clear h2 hRe hE
                  go_wp2_with fail
                  go_quiet (fail)
                  go_wp2_with fail
                  go_quiet (fail)
                  go_wp2_with fail
                  generalize hw2 : wr.drewN _ = w2
                  have e2 : Ext wr w2 := by rw [← hw2]; exact ext_drewN _ _
                  clear hw2
                  (with_reducible refine (escaped_in s p _ g _ (BG.out.ext e2) HPS.out hs).mono ?_)
                  intro e w5 h5
                  rw [HP5.out, HE.out] at h5
                  obtain ⟨rfl, g5⟩ := h5
                  unfold thrown
                  go_wp2_with fail
                  refine ⟨rfl, ?_⟩
                  rw [HRE.out]
                  exact ⟨rfl, ((SH.out.mono fun j _ h => .inl h).ext e2).grown g5 (fun j hj _ => by cases hj; exact .inl rfl)⟩
                · have hm := escS_le.2 _ _ hE
                  have hlg : labG (s.drop k) k = prep (done ++ [xb]) (labG (s.drop (p + m)) (p + m)) := by
                    have h1 := LG.out
                    rw [HDR.out, labG_esc, hE] at h1
                    have h3 : s.drop (p + m) = r1.drop (m - 1) := by rw [← HP5.out, List.drop_drop]; congr 1; omega
                    rw [h1, h3]
                    exact prep_more _ _ _
                  have HLG := hid hlg
                  have HE := hid hE
                  clear hE hlg
                  go_wp2_with fail
                  go_quiet (fail)
                  go_wp2_with fail
                  go_quiet (fail)
                  go_wp2_with fail
                  generalize hw2 : wr.drewN _ = w2
                  have e2 : Ext wr w2 := by rw [← hw2]; exact ext_drewN _ _
                  clear hw2
                  (with_reducible refine (escaped_in s p _ g _ (BG.out.ext e2) HPS.out hs).mono ?_)
                  intro e w5 h5
                  rw [HP5.out, HE.out] at h5
                  obtain ⟨rfl, b5, g5⟩ := h5
                  have s5 : Shy (fun j => j = g) w w5 := (SH.out.ext e2).grown g5 (fun j hj _ => by cases hj; rfl)
                  have O5 : BK.Own w5 w.heap.size 5 Ab cb done := (OB.out.ext e2).grown g5 (fun b hb e => by cases e; have := (OB.out.lt g hb).1; omega)
                  have hz5 : w.heap.size ≤ w5.heap.size := s5.size
                  have S5 := hid s5
                  have B5 := hid b5
                  have HO5 := hid O5
                  clear s5 b5 g5 O5 e2 c0 c1 c2 rf
                  go_wp2_with (at_builtin; go_must (refine wpList_append_1' rfl (.tmp 96) (.tmp 99) 53 rfl w.heap.size 5 i0 (.int .u8 0) 1 Try.underlying53 HI.out hz0 hz1 hz2 rfl ⟨0, rfl⟩ (fun _ h => h.one) rfl HO5.out (.int .u8 xb.toNat) (by rfl) ⟨xb, rfl⟩ (by omega) (by unfold maxLen; omega) hz5 ?_; intro A4 c4 w4 o4 g4 x4 n4))
                  have B6 := B5.out.grown g4 (fun e => by have := (HO5.out.lt g e.symm).1; omega)
                  have s6 : Shy (fun j => j = g) w w4 := S5.out.grown g4 (fun j hj hlt => by have := (HO5.out.lt j hj).1; omega)
                  refine ⟨⟨done ++ [xb], p + m, A4, c4, by simp, by omega, by omega, by simp; omega, hid ?_, hid B6, HLG, hid s6⟩, ?_⟩
                  · simpa [BK.Own] using o4
                  · rw [posOf_blk B6, posOf_blk BG.out]
                    omega
              · have z92 : ((x.toNat : Int) == 92) = false := by
                  rw [beq_eq_false_iff_ne]; intro e; apply h92; rw [← UInt8.toNat_inj]; show x.toNat = 92; omega
                have hlg : labG (s.drop k) k = prep (done ++ [x]) (labG (s.drop (p + 1)) (p + 1)) := by
                  have h1 := LG.out
                  rw [HDR.out, labG_one r1 p HVX.out HX46.out h92] at h1
                  rw [h1, HP5.out]
                  exact prep_more _ _ _
                have HLG := hid hlg
                clear hlg h92
                go_wp2_with fail
                go_quiet (fail)
                go_wp2_with fail
                go_quiet (fail)
                generalize hw2 : (wr.drewN _).drewN _ = w2
                have e2 : Ext wr w2 := by rw [← hw2]; exact ext_trans (ext_drewN _ _) (ext_drewN _ _)
                clear hw2
                have s5 : Shy (fun j => j = g) w w2 := SH.out.ext e2
                have O5 : BK.Own w2 w.heap.size 5 Ab cb done := OB.out.ext e2
                have hz5 : w.heap.size ≤ w2.heap.size := s5.size
                have S5 := hid s5
                have B5 := hid (BG.out.ext e2)
                have HO5 := hid O5
                clear s5 O5 e2 c0 c1 c2 rf
                go_wp2_with (at_builtin; go_must (refine wpList_append_1' rfl (.tmp 64) (.tmp 66) 53 rfl w.heap.size 5 i0 (.int .u8 0) 1 Try.underlying53 HI.out hz0 hz1 hz2 rfl ⟨0, rfl⟩ (fun _ h => h.one) rfl HO5.out (.int .u8 x.toNat) (by rfl) ⟨x, rfl⟩ (by omega) (by unfold maxLen; omega) hz5 ?_; intro A4 c4 w4 o4 g4 x4 n4; have B6 := B5.out.grown g4 (fun e => by have := (HO5.out.lt g e.symm).1; omega); have c1 : w4.cell? ⟨g, 1, none⟩ = some (.int .i64 p) := B6.cell 1; have rf := B6.frozen; have B6 := hid B6))
                have B7 := par_move B6.out (.int .i64 ((p : Int) + 1)) (u' := .int .i64 ((p + 1 : Nat) : Int)) (by simp)
                have s6 : Shy (fun j => j = g) w w4 := S5.out.grown g4 (fun j hj hlt => by have := (HO5.out.lt j hj).1; omega)
                have s7 : Shy (fun j => j = g) w (w4.setCell ⟨g, 1, none⟩ (.int .i64 ((p : Int) + 1))) := s6.grown (grown_of_set (grown_refl w4 (some g)) (.inl rfl) 1 _) (fun j hj _ => by cases hj; rfl)
                refine ⟨⟨done ++ [x], p + 1, A4, c4, by simp, by omega, by omega, by simp; omega, hid ?_, hid B7, HLG, hid s7⟩, ?_⟩
                · have := o4.far (p := ⟨g, 1, none⟩) (by show g < w.heap.size; omega) (.int .i64 ((p : Int) + 1))
                  simpa [BK.Own] using this
                · rw [posOf_blk B7, posOf_blk BG.out]
                  omega
end Go.Proofs.Ytcgcadhnecakaaa

/- RrlBound: the walk of its two loops. -/
import Derived.Test.YtnoepnbgnlolbaaRrlAa
import Derived.Deep.RegionHeld3
import Derived.BigQuiet
import Derived.IntWalk
namespace Go.Proofs.Ytnoepnbgnlolbaa
open Go.BK Go.RowKit Go.Maps
set_option linter.unusedVariables false
theorem info_int : (Try.prog.info? 3).map (fun i => (i.zero, i.size, i.bytes)) = some (some (.int .i64 0), 1, 8) := by kernel_rfl
theorem str_ne {a b : ByteArray} (h : ¬ a = b) : (a.toList == b.toList) = false := by
  rw [beq_eq_false_iff_ne]
  intro e
  rw [ByteArray.toList_eq, ByteArray.toList_eq] at e
  exact h (by rw [← str_of a, e, str_of])
/-- What the first loop keeps. -/
structure TimesB (T : Nat → Int) (now : Int) (k : Nat) : Prop where
  now_le : ∀ t, 0 ≤ t → (0 < k → T (k - 1) ≤ t) → now ≤ t
  inB : ∀ j, j < k → 0 ≤ T j ∧ T j ≤ 1073741824
  up : ∀ j, j + 1 < k → T j ≤ T (j + 1)
theorem TimesB.next {T : Nat → Int} {now now' : Int} {k : Nat} (h : TimesB T now k) (ht : 0 ≤ T k ∧ T k ≤ 1073741824) (hk : k = 0 ∨ 0 < k ∧ T (k - 1) ≤ T k) (hn : now' ≤ T k) : TimesB T now' (k + 1) := by
  refine ⟨fun t _ h2 => ?_, fun j hj => ?_, fun j hj => ?_⟩
  · have := h2 (by omega)
    simp only [Nat.add_sub_cancel] at this
    omega
  · rcases (show j < k ∨ j = k by omega) with h1 | rfl
    · exact h.inB j h1
    · exact ht
  · rcases (show j + 1 < k ∨ j + 1 = k by omega) with h1 | h1
    · exact h.up j h1
    · subst h1
      have := hk.resolve_left (by omega)
      simpa using this.2
theorem TimesB.le {T : Nat → Int} {now : Int} {k : Nat} (h : TimesB T now k) : ∀ m i, i + m < k → T i ≤ T (i + m) := by
  intro m
  induction m with
  | zero => intro i _; exact Int.le_refl _
  | succ m ih =>
    intro i hi
    have h1 := ih i (by omega)
    have h2 := h.up (i + m) (by omega)
    have : T (i + (m + 1)) = T (i + m + 1) := rfl
    omega
theorem pass1 {G : Prop} {P : World → Prop} (H : World → Prop) (key : ∀ b, H b → P b) (main : (∀ b, H b → P b) → G) : G := main key
theorem pasN_next (C : Nat → Int) (Nm : Nat → ByteArray) (sd : Nat → Int) {i j : Nat} (h : i ≤ j) : pasN C Nm sd i (j + 1 - i) = if (C j = C i ∧ Nm j = Nm i) ∧ sd j = 0 then pasN C Nm sd i (j - i) + 1 else pasN C Nm sd i (j - i) := by
  obtain ⟨m, rfl⟩ : ∃ m, j = i + m := ⟨j - i, by omega⟩
  rw [show i + m + 1 - i = m + 1 from by omega, show i + m - i = m from by omega]
  rfl
def InWin (T : Nat → Int) (window : Int) (i m : Nat) : Prop := ∀ q, q < m → T i ≤ T (i + q) ∧ T (i + q) < T i + window
/-- The blocks that are the limiter's. -/
def UB (base sb : Nat) : Nat → Prop := fun j => base ≤ j ∧ j ≠ sb

set_option maxRecDepth 100000 in
set_option maxHeartbeats 8000000 in
theorem bound_in (most limit window slip : Int) {A : Option Addr} {n c : Nat} {C : Nat → Int} {Nm : Nat → ByteArray} {T : Nat → Int} (w : World) (hA : RActR w A n c C Nm T)
    (hn : n ≤ 150) (h0 : 0 < n) (hl : 0 ≤ limit ∧ limit ≤ 1000) (hw : 1 ≤ window ∧ window ≤ 1000) (hp : Par.ok ⟨most, limit, window, slip⟩) :
    Calls Try.prog 5 #[.int .i64 most, .int .i64 limit, .int .i64 window, .int .i64 slip, .slice A n c] w fun e w' => e = .returned (.bool true) ∧ Below w.heap.size w w' := by
  have hc9 : c ≤ 9223372036854775807 := by have := hA.2.1; unfold maxLen at *; omega
  obtain ⟨bl, o, rfl, hbl, hall⟩ := hA.spot h0
  obtain ⟨i0, hi, hz0, hz1, hz2⟩ := info_parts info_int
  have HA := hid hA
  have HC := hid hall
  have HP := hid hp
  have hsl : 0 ≤ slip ∧ slip ≤ 1073741824 := by unfold Par.ok at hp; simp only at hp; omega
  have hmo : 1 ≤ most ∧ most ≤ 1024 := by unfold Par.ok at hp; simp only at hp; omega
  obtain ⟨sd, hsd⟩ : ∃ sd, sd = sdB ⟨most, limit, window, slip⟩ C Nm T := ⟨_, rfl⟩
  have HSD := hid hsd
  have HL0 := hid hl
  have HW0 := hid hw
  have HS0 := hid hsl
  have HM0 := hid hmo
  have hd : decide ((150 : Int) < (n : Int)) = false := by rw [decide_eq_false_iff_not]; omega
  have d1 : decide (limit < 0) = false := by rw [decide_eq_false_iff_not]; omega
  have d2 : decide (1000 < limit) = false := by rw [decide_eq_false_iff_not]; omega
  have d3 : decide (window < 1) = false := by rw [decide_eq_false_iff_not]; omega
  have d4 : decide (1000 < window) = false := by rw [decide_eq_false_iff_not]; omega
  clear hA hall hp hsl hmo hsd hl hw
  go_enter Try.func5, Try.ntmps5
  go_wp2_with fail
  refine (known_yes _).mono ?_; rintro e w1 ⟨rfl, B1⟩
  have HB1 := hid B1
  have HL := hid (long_any (HA.out.below B1))
  clear B1
  go_wp2_with fail
  refine HL.out.mono ?_; rintro e wx ⟨b, rfl, hx⟩
  subst hx
  clear HL
  cases b
  case true =>
    go_wp2_with fail
    go_ret
    exact ⟨rfl, HB1.out⟩
  go_wp2_with fail
  refine (any_new most limit window slip _ HP.out).mono ?_; rintro e w2 ⟨g, rfl, a2, x2⟩
  have A2 := hid a2
  have X2 := hid x2
  have hz2s : w.heap.size ≤ w2.heap.size := Nat.le_trans HB1.out.size x2.size
  have B2 := hid (below_next HB1.out HB1.out.size x2)
  clear a2 x2
  go_wp2_with (at_make; go_must (refine wpList_make_g (ok := isOne) (n := n) (m := n) rfl (.tmp 61) (.tmp 61) 38 rfl w.heap.size 3 i0 (.int .i64 0) 8 Try.underlying38 hi hz0 hz1 hz2 rfl rfl .i64 .i64 rfl rfl rfl rfl (Nat.le_refl _) (by omega) (by unfold maxLen; omega) hz2s ?_; intro w3 hown3 hext3 hsz3))
  obtain ⟨sb, hsb⟩ : ∃ sb, sb = w2.heap.size := ⟨_, rfl⟩
  rw [← hsb] at hown3 ⊢
  rw [← cellsB_zero sd n] at hown3
  have hbsb : w.heap.size ≤ sb := by omega
  have O3 := hid hown3
  have B3 := hid (below_next B2.out hz2s hext3)
  have A3 := hid (show AnyL (UB w.heap.size sb) w3 g ⟨most, limit, window, slip⟩ 0 [] from (A2.out.ext hext3).mono fun j _ hj => ⟨Nat.le_trans HB1.out.size hj.1, by rw [hsb]; exact Nat.ne_of_lt hj.2⟩)
  have SB := hid hsb
  clear hown3 hext3 A2 X2 HB1 B2 hsb hz2s hd d1 d2 d3 d4 hi hz0 hz1 hz2 hsz3
  go_loopw [15] (fun iv wr => ∃ (k : Nat) (now : Int), k ≤ n ∧ iv = .int .i64 k ∧ Hid (AnyL (UB w.heap.size sb) wr g ⟨most, limit, window, slip⟩ now (stB ⟨most, limit, window, slip⟩ C Nm T k)) ∧ Hid (OwnG isOne wr w.heap.size 3 1 (some ⟨sb, 0, none⟩) n n (cellsB sd n k)) ∧ Hid (Below w.heap.size w wr) ∧ Hid (TimesB T now k)) (fun iv _ => n - (intOf iv).toNat)
  case atStart => exact ⟨0, 0, Nat.zero_le _, rfl, A3, O3, B3, hid ⟨fun t h _ => h, fun j h => by omega, fun j h => by omega⟩⟩
  case round =>
    clear A3 O3 B3
    obtain ⟨k, now, hk, rfl, DD, OO, BB, TT⟩ := hrel
    by_cases hlt : k < n
    · obtain ⟨hck, hzk, htk, hcell⟩ := HC.out k hlt
      obtain ⟨t1, t2, t3⟩ := hcell _ BB.out
      have i1 : (0 : Int) ≤ (k : Int) := by omega
      have i2 : (k : Int) < (n : Int) := by omega
      rcases (show T k < 0 ∨ ¬ T k < 0 ∧ (1073741824 < T k ∨ ¬ 1073741824 < T k ∧ (0 < k ∧ T k < T (k - 1) ∨ (k = 0 ∨ 0 < k ∧ T (k - 1) ≤ T k))) by omega) with h1 | ⟨h1, h2 | ⟨h2, h3 | h3⟩⟩
      · have e1 : decide (T k < 0) = true := by rw [decide_eq_true_iff]; omega
        generalize T k = tk at *
        clear DD OO TT h1 htk hck hzk t1 t2 hcell
        as_aux_lemma =>
          go_wp2_with fail
          go_quiet (fail)
          go_wp2_with fail
          go_ret
          exact ⟨rfl, below_next BB.out BB.out.size (ext_drewN _ _)⟩
      · have e1 : decide (T k < 0) = false := by rw [decide_eq_false_iff_not]; omega
        have e2 : decide (1073741824 < T k) = true := by rw [decide_eq_true_iff]; omega
        generalize T k = tk at *
        clear DD OO TT h1 h2 htk hck hzk t1 t2 hcell
        as_aux_lemma =>
          go_wp2_with fail
          go_quiet (fail)
          go_wp2_with fail
          go_ret
          exact ⟨rfl, below_next BB.out BB.out.size (ext_drewN _ _)⟩
      · have e1 : decide (T k < 0) = false := by rw [decide_eq_false_iff_not]; omega
        have e2 : decide (1073741824 < T k) = false := by rw [decide_eq_false_iff_not]; omega
        obtain ⟨j, hj⟩ : ∃ j, j = k - 1 := ⟨_, rfl⟩
        rw [← hj] at h3
        obtain ⟨_, _, p3⟩ := (HC.out j (by omega)).2.2.2 _ BB.out
        have z1 : decide ((0 : Int) < (k : Int)) = true := by rw [decide_eq_true_iff]; omega
        have z1' : decide (0 < k) = true := by rw [decide_eq_true_iff]; omega
        have z2 : decide (T k < T j) = true := by rw [decide_eq_true_iff]; exact h3.2
        have y1 : IntKind.i64.wrap ((k : Int) - 1) = (j : Int) := by rw [IntWalk.i64_in _ (by omega)]; omega
        have y2 : (j : Int) < (n : Int) := by omega
        have HJ := hid hj
        generalize T k = tk at *
        generalize T j = tj at *
        clear DD OO TT h1 h2 h3 hj htk hck hzk t1 t2 hcell HC
        as_aux_lemma =>
          go_wp2_with fail
          go_quiet (fail)
          go_wp2_with fail
          go_ret
          exact ⟨rfl, below_next BB.out BB.out.size (ext_drewN _ _)⟩
      · have e1 : decide (T k < 0) = false := by rw [decide_eq_false_iff_not]; omega
        have e2 : decide (1073741824 < T k) = false := by rw [decide_eq_false_iff_not]; omega
        have HT := hid (And.intro h1 (And.intro h2 h3))
        have hnow : now ≤ T k := TT.out.now_le (T k) (by omega) (fun h => by omega)
        have hsk := cellsB_cell OO.out hlt
        have hfr := OO.out.frozen rfl k
        have hsbl : sb < wr.heap.size := (OO.out.lt sb rfl).2
        obtain ⟨E', v, hS⟩ : ∃ E' v, judS ⟨most, limit, window, slip⟩ (T k) (C k) (Nm k) (stB ⟨most, limit, window, slip⟩ C Nm T k) = (E', v) := ⟨_, _, rfl⟩
        have hEv : stB ⟨most, limit, window, slip⟩ C Nm T (k + 1) = E' := by show (judS _ _ _ _ _).1 = _; rw [hS]
        have hvs : sd k = v := by rw [HSD.out]; show (judS _ _ _ _ _).2 = _; rw [hS]
        have hv := sdB_in ⟨most, limit, window, slip⟩ C Nm T k
        rw [← HSD.out, hvs] at hv
        have HV := hid hv
        have HEV := hid hEv
        have HVS := hid hvs
        have CR := hid (fun W (hW : Ext wr W) => any_jud (w := W) (T k) (DD.out.ext hW) hck (fun j hj => ⟨Nat.le_trans BB.out.size (Nat.le_trans hW.size hj), fun e => by subst e; have := hW.size; omega⟩) ⟨by omega, by omega⟩ hnow hS)
        have HSBL := hid hsbl
        have HCK := hid hcell
        clear hS hEv hvs hv hnow h1 h2 h3 hck hzk htk hcell
        rcases HT.out.2.2 with hk0 | ⟨hk0, hup⟩
        focus
          have z1 : decide ((0 : Int) < (k : Int)) = false := by rw [decide_eq_false_iff_not]; omega
          have z1' : decide (0 < k) = false := by rw [decide_eq_false_iff_not]; omega
          have H9 := hid hk0
          clear hk0
          go_wp2_with fail
          go_quiet (fail)
          go_wp2_with fail
        rotate_left
        focus
          obtain ⟨j, hj⟩ : ∃ j, j = k - 1 := ⟨_, rfl⟩
          rw [← hj] at hup
          obtain ⟨_, _, p3⟩ := (HC.out j (by omega)).2.2.2 _ BB.out
          have z1 : decide ((0 : Int) < (k : Int)) = true := by rw [decide_eq_true_iff]; omega
          have z1' : decide (0 < k) = true := by rw [decide_eq_true_iff]; omega
          have z2 : decide (T k < T j) = false := by rw [decide_eq_false_iff_not]; omega
          have y1 : IntKind.i64.wrap ((k : Int) - 1) = (j : Int) := by rw [IntWalk.i64_in _ (by omega)]; omega
          have y2 : (j : Int) < (n : Int) := by omega
          have HJ := hid hj
          have H9 := hid hk0
          generalize hTj : T j = tj at z2 p3
          clear hj hup hk0 hTj
          go_wp2_with fail
          go_quiet (fail)
          go_wp2_with fail
          clear p3 z2 y1 y2
        all_goals
          clear z1 z1'
          have hS : (wr.drewN (nq + 1)).cell? ⟨bl, o + k * 3, none⟩ = some (.int .i64 (C k)) ∧ (wr.drewN (nq + 1)).cell? ⟨bl, o + k * 3 + 1, none⟩ = some (.string (Nm k)) ∧ (wr.drewN (nq + 1)).cell? ⟨bl, o + k * 3 + 2, none⟩ = some (.int .i64 (T k)) := ⟨t1, t2, t3⟩
          have hne : bl ≠ sb := by omega
          clear t1 t2 t3 hsk hfr
          have X1 : Ext wr (wr.drewN (nq + 1)) := ext_drewN _ _
          have hB1 : Below w.heap.size w (wr.drewN (nq + 1)) := below_next BB.out BB.out.size X1
          have hO1 : OwnG isOne (wr.drewN (nq + 1)) w.heap.size 3 1 (some ⟨sb, 0, none⟩) n n (cellsB sd n k) := OO.out.ext X1
          have HB1 := hid hB1
          have HO1 := hid hO1
          have CR1 := hid (CR.out _ X1)
          clear hB1 hO1 X1
          apply pass1 (fun W => (∃ now', now' ≤ T k ∧ AnyL (UB w.heap.size sb) W g ⟨most, limit, window, slip⟩ now' E') ∧ OwnG isOne W w.heap.size 3 1 (some ⟨sb, 0, none⟩) n n (cellsB sd n (k + 1)) ∧ Below w.heap.size w W)
          case main =>
            intro key
            go_region_held3 (fun w' => w'.cell? ⟨bl, o + k * 3, none⟩ = some (.int .i64 (C k)) ∧ w'.cell? ⟨bl, o + k * 3 + 1, none⟩ = some (.string (Nm k)) ∧ w'.cell? ⟨bl, o + k * 3 + 2, none⟩ = some (.int .i64 (T k))) (first | go_keep | exact HCK.out _ (Below.setCell b5 (p := ⟨sb, k, none⟩) hbsb _)) (first | (go_at_call 9; (refine CR1.out.mono ?_; rintro e w5 ⟨rfl, h5, s5⟩; have b5 := Below.trans HB1.out (s5.below HB1.out.size (fun j hj hu => by have := hu.1; omega)); have o5 := s5.ownG HO1.out (fun j hj hu => hu.2 (by injection hj with hj; exact hj.symm)); have k5 : w5.cell? ⟨bl, o + k * 3, none⟩ = some (.int .i64 (C k)) ∧ w5.cell? ⟨bl, o + k * 3 + 1, none⟩ = some (.string (Nm k)) ∧ w5.cell? ⟨bl, o + k * 3 + 2, none⟩ = some (.int .i64 (T k)) := HCK.out _ b5; have y5 := cellsB_cell o5 hlt; have f5 := o5.frozen rfl k)))
            all_goals
              generalize hW6 : World.setCell _ _ _ = W6
              refine key W6 ?_
              rw [← hW6]
              refine ⟨?_, ?_, ?_⟩
              · obtain ⟨now', hn', ha'⟩ := h5
                exact ⟨now', hn', ha'.shy (set_shy sb k _ w5) fun j hj e => hj.2 e⟩
              · have := o5.set hlt (v := .int .i64 v) rfl rfl
                rw [← HVS.out, cellsB_set sd n k hlt] at this
                rw [← HVS.out]
                exact this
              · exact b5.setCell hbsb _
          case key =>
            rintro W6 ⟨⟨now', hn', h6⟩, o6, b6⟩
            have c6 : W6.cell? ⟨sb, k, none⟩ = some (.int .i64 v) := by
              have := cellsB_cell o6 hlt
              rw [if_pos (by omega), HVS.out] at this
              exact this
            have CL := hid (any_len h6)
            have qm : decide (most < (E'.length : Int)) = false := by rw [decide_eq_false_iff_not]; have h9 : (E'.length : Int) ≤ most := h6.len_le; omega
            have H6 := hid h6
            have HO6 := hid o6
            have HB6 := hid b6
            have HTT := hid (TT.out.next ⟨by have := HT.out.1; omega, by have := HT.out.2.1; omega⟩ HT.out.2.2 hn')
            clear h6 o6 b6 hn' hS CR HB1 HO1 DD OO BB TT
            by_cases hs0 : slip = 0
            focus
              have q0 : (slip == 0) = true := by rw [hs0]; rfl
              have hv : v = 0 ∨ v = 2 := by rcases HV.out with h | h | ⟨h, _⟩; exact .inl h; exact .inr h; have h' : 0 < slip := h; omega
            rotate_left
            focus
              have q0 : (slip == 0) = false := by rw [beq_eq_false_iff_ne]; exact hs0
              have hv : v = 0 ∨ v = 2 ∨ v = 1 := by rcases HV.out with h | h | ⟨_, h⟩; exact .inl h; exact .inr (.inl h); exact .inr (.inr h)
            focus rcases hv with hv | hv | hv
            rotate_left 3
            focus rcases hv with hv | hv
            all_goals
              rw [hv] at c6
              have HV9 := hid hv
              have HS9 := hid hs0
              clear hv hs0
              as_aux_lemma =>
                go_wp2_with fail
                refine CL.out.mono ?_
                rintro e _ ⟨rfl, rfl⟩
                go_wp2_with fail
                go_roundw
                case rel => exact ⟨k + 1, now', by omega, by go_num, by rw [HEV.out]; exact H6, HO6, HB6, HTT⟩
                case measure => simp [intOf]; omega
    · have hkn : n = k := by omega
      subst hkn
      have HTI := hid TT.out
      have HCS := hid (fun (W : World) (hW : Ext wr W) (j : Nat) (hj : j < n) => (show W.cell? ⟨sb, j, none⟩ = some (.int .i64 (sd j)) from by
        have := cellsB_cell (OO.out.ext hW) hj
        rwa [if_pos hj] at this))
      have HCB := hid (fun (W : World) (hW : Ext wr W) => below_next BB.out BB.out.size hW)
      have HVL := hid (fun j => (show sd j = 0 ∨ sd j = 2 ∨ (0 < slip ∧ sd j = 1) from by rw [HSD.out]; exact sdB_in ⟨most, limit, window, slip⟩ C Nm T j))
      have HPS := hid (fun i j (hij : i ≤ j) (h : InWin T window i (j - i)) => (show pasN C Nm sd i (j - i) ≤ 2 * limit from by rw [HSD.out]; exact bound_pass ⟨most, limit, window, slip⟩ C Nm T HL0.out i (j - i) h))
      have HSL := hid (fun i m (hm : m ≤ 150) (hs : 0 < slip) => (show slpN C Nm sd i m * slip ≤ rstN C Nm sd i m from by rw [HSD.out]; exact bound_slip ⟨most, limit, window, slip⟩ C Nm T hs HL0.out.1 i m (by omega)))
      clear TT OO BB DD hlt hk HSD
      obtain ⟨wa, hwa⟩ : ∃ wa, wa = wr := ⟨_, rfl⟩
      rw [← hwa] at HCS HCB ⊢
      have hin9 : (0 : Int) ≤ (n : Int) := by omega
      clear hwa
      go_wp2_with fail
      go_loopw [16] (fun iv wr => ∃ i : Nat, i ≤ n ∧ iv = .int .i64 i ∧ Hid (Ext wa wr)) (fun iv _ => n - (intOf iv).toNat)
      case atStart => exact ⟨0, Nat.zero_le _, rfl, hid (Below.refl _ _)⟩
      case round =>
        obtain ⟨i, hi, rfl, X2⟩ := hrel
        by_cases hin : i < n
        · go_wp2_with fail
          go_loopw [17, 18] (fun pv kv wr => ∃ j : Nat, i ≤ j ∧ j ≤ n ∧ pv = .int .i64 (pasN C Nm sd i (j - i)) ∧ kv = .int .i64 j ∧ Hid (InWin T window i (j - i)) ∧ Hid (Ext wa wr)) (fun _ kv _ => n - (intOf kv).toNat)
          case atStart => exact ⟨i, Nat.le_refl _, hi, by rw [Nat.sub_self]; rfl, rfl, hid (fun q h => by omega), X2⟩
          case round =>
            clear X2
            obtain ⟨j, hij, hjn, rfl, rfl, HQ, X3⟩ := hrel
            have hpl := pasN_le (C := C) (Nm := Nm) (sd := sd) (i := i) (j - i)
            have hnx := hid (pasN_next C Nm sd hij)
            have hps := hid (HPS.out i j hij HQ.out)
            generalize pasN C Nm sd i (j - i) = q at *
            have hq9 : 0 ≤ q ∧ q ≤ 150 := by omega
            obtain ⟨t1, t2, t3⟩ := (HC.out i hin).2.2.2 _ (HCB.out _ X3.out)
            have i1 : (0 : Int) ≤ (i : Int) := by omega
            have i2 : (i : Int) < (n : Int) := by omega
            have hti := HTI.out.inB i hin
            clear hpl
            rcases (show (j < n ∧ T j - T i < window) ∨ (j < n ∧ ¬ T j - T i < window) ∨ j = n by omega) with ⟨hjl, hgo⟩ | hex
            · obtain ⟨s1, s2, s3⟩ := (HC.out j hjl).2.2.2 _ (HCB.out _ X3.out)
              have c1 := HCS.out _ X3.out j hjl
              have j1 : (0 : Int) ≤ (j : Int) := by omega
              have j2 : (j : Int) < (n : Int) := by omega
              have htj := HTI.out.inB j hjl
              have hup : T i ≤ T j := by have := HTI.out.le (j - i) i (by omega); rwa [show i + (j - i) = j from by omega] at this
              have HQ2 : Hid (InWin T window i (j + 1 - i)) := hid (fun q hq => by
                rcases (show q < j - i ∨ i + q = j by omega) with h | h
                · exact HQ.out q h
                · rw [h]; exact ⟨hup, by omega⟩)
              obtain ⟨d, hd⟩ : ∃ d, d = T j - T i := ⟨_, rfl⟩
              have ew : IntKind.i64.wrap (T j - T i) = d := by rw [hd]; exact IntWalk.i64_in _ (by omega)
              have ew2 : wrap64 (T j - T i) = d := by rw [hd]; exact IntWalk.wrap64_in _ (by omega)
              have ed : decide (d < window) = true := by rw [decide_eq_true_iff]; omega
              have ej : decide (j < n) = true := by rw [decide_eq_true_iff]; omega
              generalize T j = tj at ew ew2 s3
              generalize T i = ti at ew ew2 t3
              clear hd hup htj hti HQ hgo
              go_wp2_with fail
              go_quiet (fail)
              go_wp2_with fail
              clear ew ew2 ed s3 t3
              by_cases hc : C j = C i
              · have z3 : (C j == C i) = true := by rw [hc]; simp
                by_cases hm : Nm j = Nm i
                · have z4 : ((Nm j).toList == (Nm i).toList) = true := by rw [hm]; simp
                  by_cases hs : sd j = 0
                  · have z5 : (sd j == 0) = true := by rw [hs]; rfl
                    have hN := hid ((hnx.out).trans (if_pos ⟨⟨hc, hm⟩, hs⟩))
                    clear hnx hc hm hs
                    generalize C j = cj at *
                    generalize C i = ci at *
                    generalize Nm j = nj at *
                    generalize Nm i = ni at *
                    go_quiet (fail)
                    go_wp2_with fail
                    go_roundw
                    case rel => exact ⟨j + 1, by omega, by omega, by rw [hN.out], by go_num, HQ2, hid (ext_trans X3.out (ext_drewN _ _))⟩
                    case measure => simp [intOf]; omega
                  · have z5 : (sd j == 0) = false := by rw [beq_eq_false_iff_ne]; exact hs
                    have hN := hid ((hnx.out).trans (if_neg (fun h => hs h.2)))
                    clear hnx hc hm hs
                    as_aux_lemma =>
                      go_quiet (fail)
                      go_wp2_with fail
                      go_roundw
                      case rel => exact ⟨j + 1, by omega, by omega, by rw [hN.out], by go_num, HQ2, hid (ext_trans X3.out (ext_drewN _ _))⟩
                      case measure => simp [intOf]; omega
                · have z4 : ((Nm j).toList == (Nm i).toList) = false := str_ne hm
                  have hN := hid ((hnx.out).trans (if_neg (fun h => hm h.1.2)))
                  clear hnx hc hm
                  as_aux_lemma =>
                    go_quiet (fail)
                    go_wp2_with fail
                    go_roundw
                    case rel => exact ⟨j + 1, by omega, by omega, by rw [hN.out], by go_num, HQ2, hid (ext_trans X3.out (ext_drewN _ _))⟩
                    case measure => simp [intOf]; omega
              · have z3 : (C j == C i) = false := by rw [beq_eq_false_iff_ne]; exact hc
                have hN := hid ((hnx.out).trans (if_neg (fun h => hc h.1.1)))
                clear hnx hc
                as_aux_lemma =>
                  go_quiet (fail)
                  go_wp2_with fail
                  go_roundw
                  case rel => exact ⟨j + 1, by omega, by omega, by rw [hN.out], by go_num, HQ2, hid (ext_trans X3.out (ext_drewN _ _))⟩
                  case measure => simp [intOf]; omega
            · have hp2 : decide (2 * limit < q) = false := by rw [decide_eq_false_iff_not]; have := hps.out; omega
              have hl9 : 0 ≤ limit ∧ limit ≤ 1000 := HL0.out
              rcases hex with ⟨hjl, hgo⟩ | hex
              case' inl =>
                obtain ⟨s1, s2, s3⟩ := (HC.out j hjl).2.2.2 _ (HCB.out _ X3.out)
                have j1 : (0 : Int) ≤ (j : Int) := by omega
                have j2 : (j : Int) < (n : Int) := by omega
                have htj := HTI.out.inB j hjl
                obtain ⟨d, hd⟩ : ∃ d, d = T j - T i := ⟨_, rfl⟩
                have ew : IntKind.i64.wrap (T j - T i) = d := by rw [hd]; exact IntWalk.i64_in _ (by omega)
                have ew2 : wrap64 (T j - T i) = d := by rw [hd]; exact IntWalk.wrap64_in _ (by omega)
                have ed : decide (d < window) = false := by rw [decide_eq_false_iff_not]; omega
                have ej : decide (j < n) = true := by rw [decide_eq_true_iff]; omega
                generalize T j = tj at ew ew2 s3
                generalize T i = ti at ew ew2 t3
                clear hd htj hti HQ hgo t1 t2 s1 s2 hnx hps
                go_wp2_with fail
                go_quiet (fail)
                go_wp2_with fail
                clear ew ew2 ed s3 t3 j1 j2 ej
              case' inr =>
                have ej : decide (j < n) = false := by rw [decide_eq_false_iff_not]; omega
                have H9 := hid hex
                clear hex HQ t1 t2 t3 hnx hps hti
                go_wp2_with fail
                go_quiet (fail)
                go_wp2_with fail
              all_goals
                have X4 := hid (ext_trans X3.out (ext_drewN wr nq))
                generalize wr.drewN nq = wz at X4 ⊢
                clear X3 hp2
                go_loopw [19, 20, 21] (fun av rv kv wr => ∃ m : Nat, m ≤ i + 1 ∧ av = .int .i64 (slpN C Nm sd i m) ∧ rv = .int .i64 (rstN C Nm sd i m) ∧ kv = .int .i64 m ∧ Hid (Ext wa wr)) (fun _ _ kv _ => i + 1 - (intOf kv).toNat)
                case atStart => exact ⟨0, Nat.zero_le _, rfl, rfl, rfl, X4⟩
                case round =>
                  clear X4
                  obtain ⟨m, hm, rfl, rfl, rfl, X5⟩ := hrel
                  have ha := slpN_le (C := C) (Nm := Nm) (sd := sd) (i := i) m
                  have hr := rstN_le (C := C) (Nm := Nm) (sd := sd) (i := i) m
                  have ha1 : slpN C Nm sd i (m + 1) = if (C m = C i ∧ Nm m = Nm i) ∧ sd m = 1 then slpN C Nm sd i m + 1 else slpN C Nm sd i m := rfl
                  have hr1 : rstN C Nm sd i (m + 1) = if (C m = C i ∧ Nm m = Nm i) ∧ ¬ sd m = 0 then rstN C Nm sd i m + 1 else rstN C Nm sd i m := rfl
                  have HA1 := hid ha1
                  have HR1 := hid hr1
                  have hsm := hid (HSL.out i m)
                  clear ha1 hr1
                  generalize slpN C Nm sd i m = a at *
                  generalize rstN C Nm sd i m = r at *
                  have ha9 : 0 ≤ a ∧ a ≤ 151 := by omega
                  have hr9 : 0 ≤ r ∧ r ≤ 151 := by omega
                  clear ha hr
                  obtain ⟨t1, t2, _⟩ := (HC.out i hin).2.2.2 _ (HCB.out _ X5.out)
                  by_cases hmi : m ≤ i
                  · obtain ⟨s1, s2, _⟩ := (HC.out m (by omega)).2.2.2 _ (HCB.out _ X5.out)
                    have c1 := HCS.out _ X5.out m (by omega)
                    have m1 : (0 : Int) ≤ (m : Int) := by omega
                    have m2 : (m : Int) < (n : Int) := by omega
                    have m3 : (m : Int) ≤ (i : Int) := by omega
                    by_cases hc : C m = C i
                    · have z3 : (C m == C i) = true := by rw [hc]; simp
                      by_cases hm : Nm m = Nm i
                      · have z4 : ((Nm m).toList == (Nm i).toList) = true := by rw [hm]; simp
                        rcases HVL.out m with hs | hs | ⟨_, hs⟩
                        · rw [hs] at c1
                          have hN := hid ((HA1.out).trans (if_neg (fun h => by have := h.2; omega)))
                          have hM := hid ((HR1.out).trans (if_neg (fun h => h.2 hs)))
                          clear hc hm hs HA1 HR1
                          as_aux_lemma =>
                            go_wp2_with fail
                            go_quiet (fail)
                            go_wp2_with fail
                            go_roundw
                            case rel => exact ⟨m + 1, by omega, by rw [hN.out], by rw [hM.out], by go_num, hid (ext_trans X5.out (ext_drewN _ _))⟩
                            case measure => simp [intOf]; omega
                        · rw [hs] at c1
                          have hN := hid ((HA1.out).trans (if_neg (fun h => by have := h.2; omega)))
                          have hM := hid ((HR1.out).trans (if_pos ⟨⟨hc, hm⟩, by omega⟩))
                          clear hc hm hs HA1 HR1
                          as_aux_lemma =>
                            go_wp2_with fail
                            go_quiet (fail)
                            go_wp2_with fail
                            go_roundw
                            case rel => exact ⟨m + 1, by omega, by rw [hN.out], by rw [hM.out], by go_num, hid (ext_trans X5.out (ext_drewN _ _))⟩
                            case measure => simp [intOf]; omega
                        · rw [hs] at c1
                          have hN := hid ((HA1.out).trans (if_pos ⟨⟨hc, hm⟩, hs⟩))
                          have hM := hid ((HR1.out).trans (if_pos ⟨⟨hc, hm⟩, by omega⟩))
                          clear hc hm hs HA1 HR1
                          as_aux_lemma =>
                            go_wp2_with fail
                            go_quiet (fail)
                            go_wp2_with fail
                            go_roundw
                            case rel => exact ⟨m + 1, by omega, by rw [hN.out], by rw [hM.out], by go_num, hid (ext_trans X5.out (ext_drewN _ _))⟩
                            case measure => simp [intOf]; omega
                      · have z4 : ((Nm m).toList == (Nm i).toList) = false := str_ne hm
                        have hN := hid ((HA1.out).trans (if_neg (fun h => hm h.1.2)))
                        have hM := hid ((HR1.out).trans (if_neg (fun h => hm h.1.2)))
                        clear hc hm HA1 HR1
                        as_aux_lemma =>
                          go_wp2_with fail
                          go_quiet (fail)
                          go_wp2_with fail
                          go_roundw
                          case rel => exact ⟨m + 1, by omega, by rw [hN.out], by rw [hM.out], by go_num, hid (ext_trans X5.out (ext_drewN _ _))⟩
                          case measure => simp [intOf]; omega
                    · have z3 : (C m == C i) = false := by rw [beq_eq_false_iff_ne]; exact hc
                      have hN := hid ((HA1.out).trans (if_neg (fun h => hc h.1.1)))
                      have hM := hid ((HR1.out).trans (if_neg (fun h => hc h.1.1)))
                      clear hc HA1 HR1
                      as_aux_lemma =>
                        go_wp2_with fail
                        go_quiet (fail)
                        go_wp2_with fail
                        go_roundw
                        case rel => exact ⟨m + 1, by omega, by rw [hN.out], by rw [hM.out], by go_num, hid (ext_trans X5.out (ext_drewN _ _))⟩
                        case measure => simp [intOf]; omega
                  · have m3 : ¬ (m : Int) ≤ (i : Int) := by omega
                    by_cases hs0 : 0 < slip
                    · have e0 : decide (0 < slip) = true := by rw [decide_eq_true_iff]; exact hs0
                      have hmul : 0 ≤ a * slip ∧ a * slip ≤ r := ⟨Int.mul_nonneg ha9.1 (by omega), hsm.out (by omega) hs0⟩
                      have e1 : IntKind.i64.wrap (a * slip) = a * slip := IntWalk.i64_in _ (by omega)
                      have e3 : decide (r < a * slip) = false := by rw [decide_eq_false_iff_not]; omega
                      clear hmi t1 t2 HA1 HR1 hsm hs0
                      as_aux_lemma =>
                        go_wp2_with fail
                        go_roundw
                        case rel => exact ⟨i + 1, by omega, by go_num, X5⟩
                        case measure => simp [intOf]; omega
                    · have e0 : decide (0 < slip) = false := by rw [decide_eq_false_iff_not]; exact hs0
                      clear hmi t1 t2 HA1 HR1 hsm hs0
                      as_aux_lemma =>
                        go_wp2_with fail
                        go_roundw
                        case rel => exact ⟨i + 1, by omega, by go_num, X5⟩
                        case measure => simp [intOf]; omega
        · have hkn : n = i := by omega
          subst hkn
          go_wp2_with fail
          go_ret
          exact ⟨rfl, HCB.out _ X2.out⟩
end Go.Proofs.Ytnoepnbgnlolbaa

/- The document's bucket: When, by halves. -/
import Derived.Test.YthkhjhjlmneaoaaBukG
namespace Go.Proofs.Ythkhjhjlmneaoaa
open Go.BK Go.RowKit
set_option linter.unusedVariables false
section
variable {w w' : World} {g rate burst t a : Nat}
set_option maxRecDepth 100000 in
set_option maxHeartbeats 2000000 in
theorem rwhen_any (n now : Int) (h : RBk w g rate burst t a) (hn : -9223372036854775808 ≤ now ∧ now ≤ 9223372036854775807) (hnn : -9223372036854775808 ≤ n ∧ n ≤ 9223372036854775807) :
    Calls Try.prog 19 #[.pointer (some ⟨g, 0, none⟩), .int .i64 n, .int .i64 now] w fun e w' => e = .returned (.int .i64 (whenS rate burst (fillT rate burst t a now) n)) ∧
      RBk w' g rate burst (fillT rate burst t a now) (fillA a now) ∧ w.grownBy w' (some g) := by
  have cf := hid (rfill_any now h hn)
  have hbu := h.hb
  have hra := h.hr
  have htl := fillT_le (rate := rate) (a := a) now h.ht
  generalize fillT rate burst t a now = t1 at *
  generalize fillA a now = a1 at *
  clear h hn
  by_cases h1 : n ≤ t1
  · rw [show whenS rate burst t1 n = 0 from by unfold whenS; rw [if_pos h1]]
    go_enter Try.func19, Try.ntmps19
    go_wp2_with fail
    refine cf.out.mono ?_; rintro e w1 ⟨rfl, B1, g1⟩
    have q3 : w1.cell? ⟨g, 2, none⟩ = some (.int .i64 t1) := B1.blk.cell 2
    have HB := hid B1
    clear B1
    go_wp2_with fail
    go_ret
    exact ⟨rfl, HB.out, g1⟩
  have d1 : decide (n ≤ (t1 : Int)) = false := by rw [decide_eq_false_iff_not]; exact h1
  by_cases h2 : (burst : Int) < n
  · rw [show whenS rate burst t1 n = -1 from by unfold whenS; rw [if_neg h1, if_pos (.inl h2)]]
    have d2 : decide ((burst : Int) < n) = true := by rw [decide_eq_true_iff]; exact h2
    clear h1 h2
    go_enter Try.func19, Try.ntmps19
    go_wp2_with fail
    refine cf.out.mono ?_; rintro e w1 ⟨rfl, B1, g1⟩
    have q3 : w1.cell? ⟨g, 2, none⟩ = some (.int .i64 t1) := B1.blk.cell 2
    have q2 : w1.cell? ⟨g, 1, none⟩ = some (.int .i64 burst) := B1.blk.cell 1
    have HB := hid B1
    clear B1
    go_wp2_with fail
    go_ret
    exact ⟨rfl, HB.out, g1⟩
  have d2 : decide ((burst : Int) < n) = false := by rw [decide_eq_false_iff_not]; exact h2
  by_cases h3 : rate = 0
  · rw [show whenS rate burst t1 n = -1 from by unfold whenS; rw [if_neg h1, if_pos (.inr h3)]]
    subst h3
    clear h1 h2
    go_enter Try.func19, Try.ntmps19
    go_wp2_with fail
    refine cf.out.mono ?_; rintro e w1 ⟨rfl, B1, g1⟩
    have q3 : w1.cell? ⟨g, 2, none⟩ = some (.int .i64 t1) := B1.blk.cell 2
    have q2 : w1.cell? ⟨g, 1, none⟩ = some (.int .i64 burst) := B1.blk.cell 1
    have q1 : w1.cell? ⟨g, 0, none⟩ = some (.int .i64 (0 : Nat)) := B1.blk.cell 0
    have HB := hid B1
    clear B1
    go_wp2_with fail
    go_ret
    exact ⟨rfl, HB.out, g1⟩
  have d3 : ((rate : Int) == 0) = false := by rw [beq_eq_false_iff_ne]; omega
  obtain ⟨m, rfl⟩ : ∃ m : Nat, n = m := ⟨n.toNat, by omega⟩
  have d1' : decide (m ≤ t1) = false := by rw [decide_eq_false_iff_not]; omega
  have d2' : decide (burst < m) = false := by rw [decide_eq_false_iff_not]; omega
  have hSM : SM = 9007199254740992 := rfl
  have hMT : MT = 1099511627776 := rfl
  have WH := hid (fun (low high : Nat) => when_half (r := rate) (b := burst) (t := t1) (n := m) (low := low) (high := high) (by omega) (by omega) (by omega))
  have HTS := hid (fun (x : Nat) => half_test (r := rate) (t := t1) (n := m) (x := x) (by omega))
  have cm := hid (fun (x : Nat) (hx : x ≤ 1099511627777) (W : World) => show Calls Try.prog 28 #[.int .i64 rate, .int .i64 x] W fun e w' => e = .returned (.int .i64 (mulN rate x : Nat)) ∧ W = w' from by
    have := rmul_any (rate : Int) (x : Int) W
    rw [cutN_of (show rate ≤ SM by omega), cutN_of (show x ≤ SM by omega)] at this
    exact this)
  have ca := hid (fun (x : Nat) (W : World) => show Calls Try.prog 27 #[.int .i64 t1, .int .i64 (mulN rate x : Nat)] W fun e w' => e = .returned (.int .i64 (addN t1 (mulN rate x) : Nat)) ∧ W = w' from by
    have := radd_any (t1 : Int) ((mulN rate x : Nat) : Int) W
    rw [cutN_of (show t1 ≤ SM by omega), cutN_of (show mulN rate x ≤ SM by rw [mulN_eq]; exact Nat.min_le_right _ _)] at this
    exact this)
  have h0 : ¬ m ≤ t1 + rate * 0 := by rw [Nat.mul_zero]; omega
  have h0 := hid h0
  clear h1 h2 hSM hMT
  go_enter Try.func19, Try.ntmps19
  go_wp2_with fail
  refine cf.out.mono ?_; rintro e w1 ⟨rfl, B1, g1⟩
  have q3 : w1.cell? ⟨g, 2, none⟩ = some (.int .i64 t1) := B1.blk.cell 2
  have q2 : w1.cell? ⟨g, 1, none⟩ = some (.int .i64 burst) := B1.blk.cell 1
  have q1 : w1.cell? ⟨g, 0, none⟩ = some (.int .i64 rate) := B1.blk.cell 0
  have HB := hid B1
  have G1 := hid g1
  clear B1 g1 cf
  go_wp2_with fail
  go_loopw [7, 8] (fun lv hv wr => ∃ low high : Nat, low < high ∧ high ≤ 1099511627777 ∧ lv = .int .i64 low ∧ hv = .int .i64 high ∧ Hid (¬ m ≤ t1 + rate * low) ∧ Hid (high = MT + 1 ∨ m ≤ t1 + rate * high) ∧ Hid (Ext w1 wr)) (fun lv hv _ => (intOf hv).toNat - (intOf lv).toNat)
  case atStart => exact ⟨0, 1099511627777, by omega, Nat.le_refl _, rfl, rfl, h0, hid (.inl rfl), hid (ext_refl _)⟩
  case round =>
    obtain ⟨low, high, hlh, hhi, rfl, rfl, PL, PH, X⟩ := hrel
    clear q1 q2 q3
    by_cases hlt : low + 1 < high
    · obtain ⟨x, hx⟩ : ∃ x, x = (low + high) / 2 := ⟨_, rfl⟩
      have hx1 : ((low : Int) + high) / 2 = x := by omega
      have hx2 : ((low : Int) + high).tdiv 2 = x := by rw [Int.tdiv_eq_ediv_of_nonneg (by omega)]; exact hx1
      have hxl : low < x := by omega
      have hxh : x < high := by omega
      have HX1 := hid hx1
      clear hx hx1
      go_wp2_with fail
      refine wp_region_still_tail 12 (by kernel_rfl) (by kernel_rfl) ?_
      simp only [List.take_succ_cons, List.take_zero, List.drop_succ_cons, List.drop_zero]
      change wpStill _ _ wr.drew _ _ _
      have E1 := hid (ext_trans X.out (ext_drew wr))
      have z1 : wr.drew.cell? ⟨g, 0, none⟩ = some (.int .i64 rate) := (HB.out.ext E1.out).blk.cell 0
      have z3 : wr.drew.cell? ⟨g, 2, none⟩ = some (.int .i64 t1) := (HB.out.ext E1.out).blk.cell 2
      iterate 9 still_step
      refine wpStill_step (fun K hK => ?_)
      go_simp
      refine ⟨_, (cm.out x (by omega) _).mono fun _ _ h => ⟨h.1, h.2.symm⟩, hK _ ?_⟩
      clear hK K
      refine wpStill_step (fun K hK => ?_)
      go_simp
      refine ⟨_, (ca.out x _).mono fun _ _ h => ⟨h.1, h.2.symm⟩, hK _ ?_⟩
      clear hK K
      iterate 1 still_step
      refine wpStill_nil ?_
      change wpList _ _ _ _ _ wr.drew
      generalize wr.drew = w3 at *
      clear z1 z3 X
      have hts := HTS.out x
      generalize addN t1 (mulN rate x) = s at *
      by_cases hs : m ≤ s
      · have d5 : decide (m ≤ s) = true := by rw [decide_eq_true_iff]; exact hs
        have PX := hid (hts.1 hs)
        clear hts hs
        go_wp2_with fail
        go_roundw
        case rel => exact ⟨low, x, hxl, by omega, rfl, rfl, PL, hid (.inr PX.out), E1⟩
        case measure => simp [intOf]; omega
      · have d5 : decide (m ≤ s) = false := by rw [decide_eq_false_iff_not]; exact hs
        have PX := hid (fun h => hs (hts.2 h))
        clear hts hs
        go_wp2_with fail
        go_roundw
        case rel => exact ⟨x, high, hxh, hhi, rfl, rfl, PX, PH, E1⟩
        case measure => simp [intOf]; omega
    · have hhl : high = low + 1 := by omega
      have W1 := hid (WH.out low high PL.out PH.out hhl hhi)
      have hsub1 : (high : Int) - low = 1 := by omega
      clear hlt
      by_cases hbig : high = 1099511627777
      · have d6 : decide ((1099511627776 : Int) < high) = true := by rw [decide_eq_true_iff]; omega
        have HBG := hid hbig
        clear hhl hbig hlh hhi
        go_wp2_with fail
        go_ret
        refine ⟨?_, HB.out.ext X.out, grown_trans G1.out (grown_of_ext X.out _)⟩
        rw [W1.out, if_pos (by have : MT = 1099511627776 := rfl; have := HBG.out; omega)]
        rfl
      · have d6 : decide ((1099511627776 : Int) < high) = false := by rw [decide_eq_false_iff_not]; omega
        have hle : high ≤ 1099511627776 := by omega
        have HLE := hid hle
        clear hhl hbig hlh hhi hle
        go_wp2_with fail
        go_ret
        refine ⟨?_, HB.out.ext X.out, grown_trans G1.out (grown_of_ext X.out _)⟩
        rw [W1.out, if_neg (by have : MT = 1099511627776 := rfl; have := HLE.out; omega)]
        rfl
end
end Go.Proofs.Ythkhjhjlmneaoaa

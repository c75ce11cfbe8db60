/- The document's bucket: how it stands in memory; New, fill, Take, Tokens. -/
import Derived.Test.YthkhjhjlmneaoaaSatB
import Derived.Test.YthkhjhjlmneaoaaBukB
namespace Go.Proofs.Ythkhjhjlmneaoaa
open Go.BK Go.RowKit
set_option linter.unusedVariables false

theorem i64wrap_of_le {d : Nat} (h : d ≤ 1099511627776) : IntKind.i64.wrap (d : Int) = d := IntWalk.i64_in _ (by omega)
structure RBk (w : World) (g rate burst t a : Nat) : Prop where
  hr : rate ≤ 9007199254740992
  hb : burst ≤ 9007199254740992
  ht : t ≤ burst
  ha : a ≤ 1099511627776
  blk : Blk w g 43 #[.int .i64 rate, .int .i64 burst, .int .i64 t, .int .i64 a]
theorem RBk.ext {w w' : World} {g rate burst t a : Nat} (h : RBk w g rate burst t a) (e : Ext w w') : RBk w' g rate burst t a := ⟨h.hr, h.hb, h.ht, h.ha, h.blk.ext e⟩
theorem RBk.grown {w w' : World} {row : Option Nat} {g rate burst t a : Nat} (h : RBk w g rate burst t a) (e : w.grownBy w' row) (hne : some g ≠ row) : RBk w' g rate burst t a := ⟨h.hr, h.hb, h.ht, h.ha, h.blk.grown e hne⟩

section
variable {w w' : World} {g rate burst t a : Nat}
theorem rnew_ok (rate burst now : Nat) (w : World) (hr : rate ≤ 9007199254740992) (hb : burst ≤ 9007199254740992) (hn : now ≤ 1099511627776) :
    Calls Try.prog 16 #[.int .i64 rate, .int .i64 burst, .int .i64 now] w fun e w' => e = .returned (.tuple #[.pointer (some ⟨w.heap.size, 0, none⟩), .int .i64 0]) ∧ RBk w' w.heap.size rate burst burst now ∧ Ext w w' := by
  have c1 := hid (fun W => rcut_to (rate : Int) rate (cutN_of hr) W)
  have c2 := hid (fun W => rcut_to (burst : Int) burst (cutN_of hb) W)
  go_enter Try.func16, Try.ntmps16
  go_wp2_with fail
  refine (c1.out _).mono ?_; rintro e wx ⟨rfl, rfl⟩
  go_wp2_with fail
  refine (c2.out _).mono ?_; rintro e wx ⟨rfl, rfl⟩
  go_wp2_with fail
  go_ret2
  exact ⟨rfl, ⟨hr, hb, Nat.le_refl _, hn, Blk.new w _ _⟩, ext_alloc _ _⟩
theorem rnew_no (rate burst now : Int) (w : World) (h : ¬ ((cutN rate : Nat) : Int) = rate ∨ ¬ ((cutN burst : Nat) : Int) = burst ∨ now < 0 ∨ 1099511627776 < now) :
    Calls Try.prog 16 #[.int .i64 rate, .int .i64 burst, .int .i64 now] w fun e w' => e = .returned (.tuple #[.pointer none, .int .i64 2]) ∧ w = w' := by
  have c1 := hid (fun W => rcut_any rate W)
  have c2 := hid (fun W => rcut_any burst W)
  generalize cutN rate = x at *
  generalize cutN burst = y at *
  by_cases h1 : (x : Int) = rate
  · by_cases h2 : (y : Int) = burst
    · subst h1; subst h2
      by_cases h3 : now < 0
      · have q : decide (now < 0) = true := by rw [decide_eq_true_iff]; exact h3
        clear h h3
        go_enter Try.func16, Try.ntmps16
        go_wp2_with fail
        refine (c1.out _).mono ?_; rintro e wx ⟨rfl, rfl⟩
        go_wp2_with fail
        refine (c2.out _).mono ?_; rintro e wx ⟨rfl, rfl⟩
        go_wp2_with fail
        go_ret2
        exact ⟨rfl, rfl⟩
      · have q : decide (now < 0) = false := by rw [decide_eq_false_iff_not]; exact h3
        have q2 : decide ((1099511627776 : Int) < now) = true := by rw [decide_eq_true_iff]; omega
        clear h h3
        go_enter Try.func16, Try.ntmps16
        go_wp2_with fail
        refine (c1.out _).mono ?_; rintro e wx ⟨rfl, rfl⟩
        go_wp2_with fail
        refine (c2.out _).mono ?_; rintro e wx ⟨rfl, rfl⟩
        go_wp2_with fail
        go_ret2
        exact ⟨rfl, rfl⟩
    · have q : (burst == (y : Int)) = false := by rw [beq_eq_false_iff_ne]; exact fun e => h2 e.symm
      have q' : (burst != (y : Int)) = true := by rw [bne_iff_ne]; exact fun e => h2 e.symm
      clear h h2
      subst h1
      go_enter Try.func16, Try.ntmps16
      go_wp2_with fail
      refine (c1.out _).mono ?_; rintro e wx ⟨rfl, rfl⟩
      go_wp2_with fail
      refine (c2.out _).mono ?_; rintro e wx ⟨rfl, rfl⟩
      go_wp2_with fail
      go_ret2
      exact ⟨rfl, rfl⟩
  · have q : (rate == (x : Int)) = false := by rw [beq_eq_false_iff_ne]; exact fun e => h1 e.symm
    have q' : (rate != (x : Int)) = true := by rw [bne_iff_ne]; exact fun e => h1 e.symm
    clear h h1
    go_enter Try.func16, Try.ntmps16
    go_wp2_with fail
    refine (c1.out _).mono ?_; rintro e wx ⟨rfl, rfl⟩
    go_wp2_with fail
    go_ret2
    exact ⟨rfl, rfl⟩

set_option maxRecDepth 100000 in
set_option maxHeartbeats 2000000 in
theorem rfill_any (now : Int) (h : RBk w g rate burst t a) (hn : -9223372036854775808 ≤ now ∧ now ≤ 9223372036854775807) :
    Calls Try.prog 26 #[.pointer (some ⟨g, 0, none⟩), .int .i64 now] w fun e w' => e = .returned (.tuple #[]) ∧ RBk w' g rate burst (fillT rate burst t a now) (fillA a now) ∧ w.grownBy w' (some g) := by
  have hr := h.hr
  have hbu := h.hb
  have htb := h.ht
  have hat := h.ha
  obtain ⟨r1, r2⟩ := h.blk.rules
  have q1 := r1 0
  have q2 := r1 1
  have q3 := r1 2
  have q4 := r1 3
  simp only [List.getElem?_toArray, List.getElem?_cons_zero, List.getElem?_cons_succ] at q1 q2 q3 q4
  have H := hid h
  clear r1 h
  by_cases h1 : now < a
  · have e1 : fillT rate burst t a now = t := by unfold fillT; rw [if_pos (.inl h1)]
    have e2 : fillA a now = a := by unfold fillA; rw [if_pos (.inl h1)]
    rw [e1, e2]
    clear e1 e2
    go_enter Try.func26, Try.ntmps26
    go_wp2_with fail
    refine bodyPost_ret (results_none rfl _ _ _) rfl ?_
    exact ⟨rfl, H.out, grown_refl _ _⟩
  · by_cases h2 : now ≤ 1099511627776
    · obtain ⟨m, rfl⟩ : ∃ m : Nat, now = m := ⟨now.toNat, by omega⟩
      have e1 : fillT rate burst t a (m : Int) = min (addN t (mulN rate (m - a))) burst := by unfold fillT; rw [if_neg (by have : MT = 1099511627776 := rfl; omega)]; rfl
      have e2 : fillA a (m : Int) = m := by unfold fillA; rw [if_neg (by have : MT = 1099511627776 := rfl; omega)]; rfl
      rw [e1, e2]
      have hSM : SM = 9007199254740992 := rfl
      have cm := hid (fun W => rmul_any (rate : Int) ((m - a : Nat) : Int) W)
      rw [cutN_of (show rate ≤ SM by omega), cutN_of (show m - a ≤ SM by omega)] at cm
      have hmb : mulN rate (m - a) ≤ SM := by rw [mulN_eq]; exact Nat.min_le_right _ _
      have ca := hid (fun W => radd_any (t : Int) ((mulN rate (m - a) : Nat) : Int) W)
      rw [cutN_of (show t ≤ SM by omega), cutN_of hmb] at ca
      have hab : addN t (mulN rate (m - a)) ≤ 9007199254740992 := addN_le _ _
      generalize addN t (mulN rate (m - a)) = s at *
      generalize mulN rate (m - a) = p at *
      obtain ⟨d, hd⟩ : ∃ d, d = m - a := ⟨_, rfl⟩
      rw [← hd] at cm
      have hdec : decide (m < a) = false := by rw [decide_eq_false_iff_not]; omega
      have hsubd : (m : Int) - a = d := by omega
      have hd0 : d ≤ 1099511627776 := by omega
      have hwr := i64wrap_of_le hd0
      rw [← hwr] at cm
      clear hd hmb hSM e1 e2 h1 hwr hd0
      go_enter Try.func26, Try.ntmps26
      go_wp2_with fail
      refine wp_region_still_tail 11 (by kernel_rfl) (by kernel_rfl) ?_
      simp only [List.take_succ_cons, List.take_zero, List.drop_succ_cons, List.drop_zero]
      change wpStill _ _ w.drew _ _ _
      have z1 : w.drew.cell? ⟨g, 0, none⟩ = some (.int .i64 rate) := (H.out.ext (ext_drew w)).blk.cell 0
      have z4 : w.drew.cell? ⟨g, 3, none⟩ = some (.int .i64 a) := (H.out.ext (ext_drew w)).blk.cell 3
      iterate 10 still_step
      refine wpStill_step (fun K hK => ?_)
      go_simp
      refine ⟨_, ((cm.out _)).mono fun _ _ h => ⟨h.1, h.2.symm⟩, hK _ ?_⟩
      clear hK K
      refine wpStill_nil ?_
      change wpList _ _ _ _ _ w.drew
      have B0 := H.out.ext (ext_drew w)
      have E0 := hid (ext_drew w)
      clear z1 z4
      generalize w.drew = w0 at *
      have p2 : w0.cell? ⟨g, 1, none⟩ = some (.int .i64 burst) := B0.blk.cell 1
      have p3 : w0.cell? ⟨g, 2, none⟩ = some (.int .i64 t) := B0.blk.cell 2
      have p4 : w0.cell? ⟨g, 3, none⟩ = some (.int .i64 a) := B0.blk.cell 3
      have pf : ∀ i, w0.frozen? ⟨g, i, none⟩ = false := B0.blk.frozen
      have HB0 := hid B0
      clear B0 q1 q2 q3 q4 r2 cm hsubd
      go_wp2_with fail
      refine wp_region_still_tail 14 (by kernel_rfl) (by kernel_rfl) ?_
      simp only [List.take_succ_cons, List.take_zero, List.drop_succ_cons, List.drop_zero]
      change wpStill _ _ w0.drew _ _ _
      iterate 6 still_step
      refine wpStill_step (fun K hK => ?_)
      go_simp
      refine ⟨_, (ca.out _).mono fun _ _ h => ⟨h.1, h.2.symm⟩, hK _ ?_⟩
      clear hK K
      iterate 7 still_step
      refine wpStill_nil ?_
      change wpList _ _ _ _ _ w0.drew
      have hB1 := hid (HB0.out.ext (ext_drew w0))
      have hE1 := hid (ext_trans E0.out (ext_drew w0))
      have u3 : w0.drew.cell? ⟨g, 2, none⟩ = some (.int .i64 t) := hB1.out.blk.cell 2
      have u4 : w0.drew.cell? ⟨g, 3, none⟩ = some (.int .i64 a) := hB1.out.blk.cell 3
      have uf : ∀ i, w0.drew.frozen? ⟨g, i, none⟩ = false := hB1.out.blk.frozen
      clear p2 p3 p4 pf HB0 E0
      generalize w0.drew = w2 at *
      go_wp2_with fail
      refine bodyPost_end (results_none rfl _ _ _) rfl ?_
      have hmn : min (s : Int) burst = ((min s burst : Nat) : Int) := by omega
      have hgr : w2.grownBy ((w2.setCell ⟨g, 2, none⟩ (.int .i64 (min (s : Int) burst))).setCell ⟨g, 3, none⟩ (.int .i64 m)) (some g) := grown_of_set (grown_of_set (grown_refl _ _) (.inl rfl) 2 _) (.inl rfl) 3 _
      refine ⟨rfl, ⟨hr, hbu, Nat.min_le_right _ _, by omega, ?_⟩, grown_trans (grown_of_ext hE1.out _) hgr⟩
      have := (hB1.out.blk.set_ 2 (.int .i64 (min (s : Int) burst))).set_ 3 (.int .i64 m)
      rw [hmn] at this ⊢
      exact this
    · have e1 : fillT rate burst t a now = t := by unfold fillT; rw [if_pos (.inr (by have : MT = 1099511627776 := rfl; omega))]
      have e2 : fillA a now = a := by unfold fillA; rw [if_pos (.inr (by have : MT = 1099511627776 := rfl; omega))]
      rw [e1, e2]
      have d2 : decide ((1099511627776 : Int) < now) = true := by rw [decide_eq_true_iff]; omega
      have d1 : decide (now < (a : Int)) = false := by rw [decide_eq_false_iff_not]; exact h1
      clear e1 e2 h1 h2
      go_enter Try.func26, Try.ntmps26
      go_wp2_with fail
      refine bodyPost_ret (results_none rfl _ _ _) rfl ?_
      exact ⟨rfl, H.out, grown_refl _ _⟩
end
end Go.Proofs.Ythkhjhjlmneaoaa

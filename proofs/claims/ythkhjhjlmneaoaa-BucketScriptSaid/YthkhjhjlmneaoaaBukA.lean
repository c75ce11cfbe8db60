/- bucket.Bucket: how it stands in memory; New, none, fill. -/
import Derived.Test.YthkhjhjlmneaoaaSatA
import Derived.Test.YthkhjhjlmneaoaaBukS
import Derived.Deep.RegionHeld3
import Derived.StillTailTactics
namespace Go.Proofs.Ythkhjhjlmneaoaa
open Go.BK Go.RowKit
set_option linter.unusedVariables false

structure Bkt (w : World) (g rate burst t a : Nat) : Prop where
  hr : rate ≤ 9007199254740992
  hb : burst ≤ 9007199254740992
  ht : t ≤ burst
  ha : a ≤ 1099511627776
  blk : Blk w g 48 #[.bool true, .int .i64 rate, .int .i64 burst, .int .i64 t, .int .i64 a]
theorem Bkt.ext {w w' : World} {g rate burst t a : Nat} (h : Bkt w g rate burst t a) (e : Ext w w') : Bkt w' g rate burst t a := ⟨h.hr, h.hb, h.ht, h.ha, h.blk.ext e⟩
theorem Bkt.grown {w w' : World} {row : Option Nat} {g rate burst t a : Nat} (h : Bkt w g rate burst t a) (e : w.grownBy w' row) (hne : some g ≠ row) : Bkt w' g rate burst t a := ⟨h.hr, h.hb, h.ht, h.ha, h.blk.grown e hne⟩

theorem within_any (n : Int) (w : World) : Calls Try.prog 22 #[.int .i64 n] w fun e w' => e = .returned (.bool (decide (0 ≤ n ∧ n ≤ 1099511627776))) ∧ w = w' := by
  rcases Int.lt_or_le n 0 with h | h
  · rw [show decide (0 ≤ n ∧ n ≤ 1099511627776) = false from by rw [decide_eq_false_iff_not]; omega]
    go_enter Try.func22, Try.ntmps22
    go_wp2
    go_ret
    exact ⟨rfl, rfl⟩
  · by_cases h2 : n ≤ 1099511627776
    · rw [show decide (0 ≤ n ∧ n ≤ 1099511627776) = true from by rw [decide_eq_true_iff]; omega]
      go_enter Try.func22, Try.ntmps22
      go_wp2
      go_ret
      exact ⟨rfl, rfl⟩
    · rw [show decide (0 ≤ n ∧ n ≤ 1099511627776) = false from by rw [decide_eq_false_iff_not]; omega]
      have hd : decide (n ≤ 1099511627776) = false := by rw [decide_eq_false_iff_not]; exact h2
      go_enter Try.func22, Try.ntmps22
      go_wp2
      go_ret
      exact ⟨rfl, rfl⟩
theorem within_to (n : Int) (b : Bool) (h : decide (0 ≤ n ∧ n ≤ 1099511627776) = b) (w : World) : Calls Try.prog 22 #[.int .i64 n] w fun e w' => e = .returned (.bool b) ∧ w = w' := by
  subst h; exact within_any n w

section
variable {w w' : World} {g rate burst t a : Nat}
theorem none_ok (h : Bkt w g rate burst t a) : Calls Try.prog 23 #[.pointer (some ⟨g, 0, none⟩)] w fun e w' => e = .returned (.bool false) ∧ w = w' := by
  have q := h.blk.cell 0
  simp only [List.getElem?_toArray, List.getElem?_cons_zero] at q
  clear h
  go_enter Try.func23, Try.ntmps23
  go_wp2
  go_ret
  exact ⟨rfl, rfl⟩

set_option maxRecDepth 100000 in
set_option maxHeartbeats 2000000 in
theorem fill_any (now : Int) (h : Bkt w g rate burst t a) (hn : -9223372036854775808 ≤ now ∧ now ≤ 9223372036854775807) :
    Calls Try.prog 24 #[.pointer (some ⟨g, 0, none⟩), .int .i64 now] w fun e w' => e = .returned (.tuple #[]) ∧ Bkt w' g rate burst (fillT rate burst t a now) (fillA a now) ∧ w.grownBy w' (some g) := by
  have hr := h.hr
  have hbu := h.hb
  have htb := h.ht
  have hat := h.ha
  obtain ⟨r1, r2⟩ := h.blk.rules
  have q1 := r1 1
  have q2 := r1 2
  have q3 := r1 3
  have q4 := r1 4
  simp only [List.getElem?_toArray, List.getElem?_cons_zero, List.getElem?_cons_succ] at q1 q2 q3 q4
  have H := hid h
  clear r1 h
  by_cases h1 : now < a
  · have e1 : fillT rate burst t a now = t := by unfold fillT; rw [if_pos (.inl h1)]
    have e2 : fillA a now = a := by unfold fillA; rw [if_pos (.inl h1)]
    rw [e1, e2]
    clear e1 e2
    go_enter Try.func24, Try.ntmps24
    go_wp2_with fail
    refine bodyPost_ret (results_none rfl _ _ _) rfl ?_
    exact ⟨rfl, H.out, grown_refl _ _⟩
  · by_cases h2 : now ≤ 1099511627776
    · obtain ⟨m, rfl⟩ : ∃ m : Nat, now = m := ⟨now.toNat, by omega⟩
      have e1 : fillT rate burst t a (m : Int) = min (addN t (mulN rate (m - a))) burst := by unfold fillT; rw [if_neg (by have : MT = 1099511627776 := rfl; omega)]; rfl
      have e2 : fillA a (m : Int) = m := by unfold fillA; rw [if_neg (by have : MT = 1099511627776 := rfl; omega)]; rfl
      rw [e1, e2]
      have hSM : SM = 9007199254740992 := rfl
      have cw := hid (fun W => within_to (m : Int) true (by rw [decide_eq_true_iff]; omega) W)
      have cs := hid (fun W => sub_any (m : Int) a W)
      rw [cutN_of (show m ≤ SM by omega), cutN_of (show a ≤ SM by omega)] at cs
      have cm := hid (fun W => mul_any (rate : Int) ((m - a : Nat) : Int) W)
      rw [cutN_of (show rate ≤ SM by omega), cutN_of (show m - a ≤ SM by omega)] at cm
      have hmb : mulN rate (m - a) ≤ SM := by rw [mulN_eq]; exact Nat.min_le_right _ _
      have ca := hid (fun W => add_any (t : Int) ((mulN rate (m - a) : Nat) : Int) W)
      rw [cutN_of (show t ≤ SM by omega), cutN_of hmb] at ca
      have hab : addN t (mulN rate (m - a)) ≤ 9007199254740992 := addN_le _ _
      generalize addN t (mulN rate (m - a)) = s at *
      generalize mulN rate (m - a) = p at *
      obtain ⟨d, hd⟩ : ∃ d, d = m - a := ⟨_, rfl⟩
      rw [← hd] at cs cm
      have hdec : decide (m < a) = false := by rw [decide_eq_false_iff_not]; omega
      clear hd hmb hSM e1 e2 h1
      go_enter Try.func24, Try.ntmps24
      go_wp2_with fail
      refine (cw.out _).mono ?_; rintro e w1 ⟨rfl, rfl⟩
      go_wp2_with fail
      go_quiet ((first | (go_at_call 30; exact quiet_sym (cs.out _)) | (go_at_call 29; exact Calls.quiet_of (cm.out _))))
      have B0 := H.out.ext (ext_drewN w nq)
      have E0 := hid (ext_drewN w nq)
      generalize w.drewN nq = w0 at *
      have p2 : w0.cell? ⟨g, 2, none⟩ = some (.int .i64 burst) := B0.blk.cell 2
      have p3 : w0.cell? ⟨g, 3, none⟩ = some (.int .i64 t) := B0.blk.cell 3
      have p4 : w0.cell? ⟨g, 4, none⟩ = some (.int .i64 a) := B0.blk.cell 4
      have pf : ∀ i, w0.frozen? ⟨g, i, none⟩ = false := B0.blk.frozen
      have HB0 := hid B0
      clear B0 q1 q2 q3 q4 r2 cs cm cw
      go_wp2_with fail
      refine wp_region_still_tail 17 (by kernel_rfl) (by kernel_rfl) ?_
      simp only [List.take_succ_cons, List.take_zero, List.drop_succ_cons, List.drop_zero]
      change wpStill _ _ w0.drew _ _ _
      iterate 7 still_step
      refine wpStill_step (fun K hK => ?_)
      go_simp
      refine ⟨_, (ca.out _).mono fun _ _ h => ⟨h.1, h.2.symm⟩, hK _ ?_⟩
      clear hK K
      iterate 9 still_step
      refine wpStill_nil ?_
      change wpList _ _ _ _ _ w0.drew
      have hB1 := hid (HB0.out.ext (ext_drew w0))
      have hE1 := hid (ext_trans E0.out (ext_drew w0))
      have u3 : w0.drew.cell? ⟨g, 3, none⟩ = some (.int .i64 t) := hB1.out.blk.cell 3
      have u4 : w0.drew.cell? ⟨g, 4, none⟩ = some (.int .i64 a) := hB1.out.blk.cell 4
      have uf : ∀ i, w0.drew.frozen? ⟨g, i, none⟩ = false := hB1.out.blk.frozen
      clear p2 p3 p4 pf HB0 E0
      generalize w0.drew = w2 at *
      go_wp2_with fail
      refine bodyPost_end (results_none rfl _ _ _) rfl ?_
      have hmn : min (s : Int) burst = ((min s burst : Nat) : Int) := by omega
      have hgr : w2.grownBy ((w2.setCell ⟨g, 3, none⟩ (.int .i64 (min (s : Int) burst))).setCell ⟨g, 4, none⟩ (.int .i64 m)) (some g) := grown_of_set (grown_of_set (grown_refl _ _) (.inl rfl) 3 _) (.inl rfl) 4 _
      refine ⟨rfl, ⟨hr, hbu, Nat.min_le_right _ _, by omega, ?_⟩, grown_trans (grown_of_ext hE1.out _) hgr⟩
      have := (hB1.out.blk.set_ 3 (.int .i64 (min (s : Int) burst))).set_ 4 (.int .i64 m)
      rw [hmn] at this ⊢
      exact this
    · have e1 : fillT rate burst t a now = t := by unfold fillT; rw [if_pos (.inr (by have : MT = 1099511627776 := rfl; omega))]
      have e2 : fillA a now = a := by unfold fillA; rw [if_pos (.inr (by have : MT = 1099511627776 := rfl; omega))]
      rw [e1, e2]
      have cw := hid (fun W => within_to now false (by rw [decide_eq_false_iff_not]; omega) W)
      have hdec : decide (now < (a : Int)) = false := by rw [decide_eq_false_iff_not]; exact h1
      clear e1 e2 h1 h2
      go_enter Try.func24, Try.ntmps24
      go_wp2_with fail
      refine (cw.out _).mono ?_; rintro e w1 ⟨rfl, rfl⟩
      go_wp2_with fail
      refine bodyPost_ret (results_none rfl _ _ _) rfl ?_
      exact ⟨rfl, H.out, grown_refl _ _⟩
end
end Go.Proofs.Ythkhjhjlmneaoaa

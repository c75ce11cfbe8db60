/- bucket.Bucket.When; the examples. -/
import Derived.Test.YthkhjhjlmneaoaaBukB
namespace Go.Proofs.Ythkhjhjlmneaoaa
open Go.BK Go.RowKit
set_option linter.unusedVariables false

section
variable {w w' : World} {g rate burst t a : Nat}
set_option maxRecDepth 100000 in
set_option maxHeartbeats 2000000 in
theorem when_any (n now : Int) (h : Bkt w g rate burst t a) (hn : -9223372036854775808 ≤ now ∧ now ≤ 9223372036854775807) (hnn : -9223372036854775808 ≤ n ∧ n ≤ 9223372036854775807) :
    Calls Try.prog 15 #[.pointer (some ⟨g, 0, none⟩), .int .i64 n, .int .i64 now] w fun e w' => e = .returned (.int .i64 (whenS rate burst (fillT rate burst t a now) n)) ∧
      Bkt w' g rate burst (fillT rate burst t a now) (fillA a now) ∧ w.grownBy w' (some g) := by
  have cn := hid (none_ok h)
  have cf := hid (fill_any now h hn)
  have hbu := h.hb
  have hra := h.hr
  have htl := fillT_le (rate := rate) (a := a) now h.ht
  generalize fillT rate burst t a now = t1 at *
  generalize fillA a now = a1 at *
  clear h hn
  by_cases h1 : n ≤ t1
  · rw [show whenS rate burst t1 n = 0 from by unfold whenS; rw [if_pos h1]]
    go_enter Try.func15, Try.ntmps15
    go_wp2_with fail
    refine cn.out.mono ?_; rintro e w1 ⟨rfl, rfl⟩
    go_wp2_with fail
    refine cf.out.mono ?_; rintro e w1 ⟨rfl, B1, g1⟩
    have q3 : w1.cell? ⟨g, 3, none⟩ = some (.int .i64 t1) := B1.blk.cell 3
    have HB := hid B1
    clear B1
    go_wp2_with fail
    go_ret
    exact ⟨rfl, HB.out, g1⟩
  have d1 : decide (n ≤ (t1 : Int)) = false := by rw [decide_eq_false_iff_not]; exact h1
  by_cases h2 : (burst : Int) < n
  · rw [show whenS rate burst t1 n = -1 from by unfold whenS; rw [if_neg h1, if_pos (.inl h2)]]
    have d2 : decide ((burst : Int) < n) = true := by rw [decide_eq_true_iff]; exact h2
    clear h1 h2
    go_enter Try.func15, Try.ntmps15
    go_wp2_with fail
    refine cn.out.mono ?_; rintro e w1 ⟨rfl, rfl⟩
    go_wp2_with fail
    refine cf.out.mono ?_; rintro e w1 ⟨rfl, B1, g1⟩
    have q3 : w1.cell? ⟨g, 3, none⟩ = some (.int .i64 t1) := B1.blk.cell 3
    have q2 : w1.cell? ⟨g, 2, none⟩ = some (.int .i64 burst) := B1.blk.cell 2
    have HB := hid B1
    clear B1
    go_wp2_with fail
    go_ret
    exact ⟨rfl, HB.out, g1⟩
  have d2 : decide ((burst : Int) < n) = false := by rw [decide_eq_false_iff_not]; exact h2
  by_cases h3 : rate = 0
  · rw [show whenS rate burst t1 n = -1 from by unfold whenS; rw [if_neg h1, if_pos (.inr h3)]]
    subst h3
    clear h1 h2
    go_enter Try.func15, Try.ntmps15
    go_wp2_with fail
    refine cn.out.mono ?_; rintro e w1 ⟨rfl, rfl⟩
    go_wp2_with fail
    refine cf.out.mono ?_; rintro e w1 ⟨rfl, B1, g1⟩
    have q3 : w1.cell? ⟨g, 3, none⟩ = some (.int .i64 t1) := B1.blk.cell 3
    have q2 : w1.cell? ⟨g, 2, none⟩ = some (.int .i64 burst) := B1.blk.cell 2
    have q1 : w1.cell? ⟨g, 1, none⟩ = some (.int .i64 (0 : Nat)) := B1.blk.cell 1
    have HB := hid B1
    clear B1
    go_wp2_with fail
    go_ret
    exact ⟨rfl, HB.out, g1⟩
  have d3 : ((rate : Int) == 0) = false := by rw [beq_eq_false_iff_ne]; omega
  obtain ⟨m, rfl⟩ : ∃ m : Nat, n = m := ⟨n.toNat, by omega⟩
  obtain ⟨x, hx⟩ : ∃ x, x = m - t1 := ⟨_, rfl⟩
  have e0 : (m : Int) - t1 = x := by omega
  have hxb : x ≤ 9007199254740992 := by omega
  obtain ⟨q, hq⟩ : ∃ q, q = x / rate := ⟨_, rfl⟩
  obtain ⟨r, hr⟩ : ∃ q, q = x % rate := ⟨_, rfl⟩
  have e1 : (x : Int) / rate = q := by rw [hq, Int.natCast_ediv]
  have e1' : (x : Int).tdiv rate = q := by rw [Int.tdiv_eq_ediv_of_nonneg (by omega)]; exact e1
  have e2 : (x : Int) % rate = r := by rw [hr, Int.natCast_emod]
  have e2' : (x : Int).tmod rate = r := by rw [Int.tmod_eq_emod_of_nonneg (by omega)]; exact e2
  have hqb : q ≤ 9007199254740992 := by have := Nat.div_le_self x rate; omega
  have hW : whenS rate burst t1 (m : Int) = if MT < ceilD x rate then -1 else (ceilD x rate : Int) := by
    unfold whenS
    rw [if_neg h1, if_neg (by omega), show ((m : Int)).toNat - t1 = x from by omega]
  have hC : ceilD x rate = q + if r = 0 then 0 else 1 := by unfold ceilD; rw [← hq, ← hr]
  rw [hW, hC]
  have hMT : MT = 1099511627776 := rfl
  have d1' : decide (m ≤ t1) = false := by rw [decide_eq_false_iff_not]; omega
  have d2' : decide (burst < m) = false := by rw [decide_eq_false_iff_not]; omega
  clear hW hC hq hr hx h1 h2
  by_cases h5 : r = 0
  · subst h5
    rw [if_pos rfl, Nat.add_zero]
    by_cases h6 : MT < q
    · rw [if_pos h6]
      have d6 : decide ((1099511627776 : Int) < q) = true := by rw [decide_eq_true_iff]; omega
      clear h6 hMT
      go_enter Try.func15, Try.ntmps15
      go_wp2_with fail
      refine cn.out.mono ?_; rintro e w1 ⟨rfl, rfl⟩
      go_wp2_with fail
      refine cf.out.mono ?_; rintro e w1 ⟨rfl, B1, g1⟩
      have q3 : w1.cell? ⟨g, 3, none⟩ = some (.int .i64 t1) := B1.blk.cell 3
      have q2 : w1.cell? ⟨g, 2, none⟩ = some (.int .i64 burst) := B1.blk.cell 2
      have q1 : w1.cell? ⟨g, 1, none⟩ = some (.int .i64 rate) := B1.blk.cell 1
      have HB := hid B1
      clear B1
      go_wp2_with fail
      go_ret
      exact ⟨rfl, HB.out, g1⟩
    · rw [if_neg h6]
      have d6 : decide ((1099511627776 : Int) < q) = false := by rw [decide_eq_false_iff_not]; omega
      clear h6 hMT
      go_enter Try.func15, Try.ntmps15
      go_wp2_with fail
      refine cn.out.mono ?_; rintro e w1 ⟨rfl, rfl⟩
      go_wp2_with fail
      refine cf.out.mono ?_; rintro e w1 ⟨rfl, B1, g1⟩
      have q3 : w1.cell? ⟨g, 3, none⟩ = some (.int .i64 t1) := B1.blk.cell 3
      have q2 : w1.cell? ⟨g, 2, none⟩ = some (.int .i64 burst) := B1.blk.cell 2
      have q1 : w1.cell? ⟨g, 1, none⟩ = some (.int .i64 rate) := B1.blk.cell 1
      have HB := hid B1
      clear B1
      go_wp2_with fail
      go_ret
      exact ⟨rfl, HB.out, g1⟩
  · rw [if_neg h5]
    have d5 : ((r : Int) == 0) = false := by rw [beq_eq_false_iff_ne]; omega
    have d5' : ((r : Int) != 0) = true := by rw [bne_iff_ne]; omega
    by_cases h6 : MT < q + 1
    · rw [if_pos h6]
      have d6 : decide ((1099511627776 : Int) < (q : Int) + 1) = true := by rw [decide_eq_true_iff]; omega
      clear h6 hMT h5
      go_enter Try.func15, Try.ntmps15
      go_wp2_with fail
      refine cn.out.mono ?_; rintro e w1 ⟨rfl, rfl⟩
      go_wp2_with fail
      refine cf.out.mono ?_; rintro e w1 ⟨rfl, B1, g1⟩
      have q3 : w1.cell? ⟨g, 3, none⟩ = some (.int .i64 t1) := B1.blk.cell 3
      have q2 : w1.cell? ⟨g, 2, none⟩ = some (.int .i64 burst) := B1.blk.cell 2
      have q1 : w1.cell? ⟨g, 1, none⟩ = some (.int .i64 rate) := B1.blk.cell 1
      have HB := hid B1
      clear B1
      go_wp2_with fail
      go_ret
      exact ⟨rfl, HB.out, g1⟩
    · rw [if_neg h6]
      have d6 : decide ((1099511627776 : Int) < (q : Int) + 1) = false := by rw [decide_eq_false_iff_not]; omega
      clear h6 hMT h5
      go_enter Try.func15, Try.ntmps15
      go_wp2_with fail
      refine cn.out.mono ?_; rintro e w1 ⟨rfl, rfl⟩
      go_wp2_with fail
      refine cf.out.mono ?_; rintro e w1 ⟨rfl, B1, g1⟩
      have q3 : w1.cell? ⟨g, 3, none⟩ = some (.int .i64 t1) := B1.blk.cell 3
      have q2 : w1.cell? ⟨g, 2, none⟩ = some (.int .i64 burst) := B1.blk.cell 2
      have q1 : w1.cell? ⟨g, 1, none⟩ = some (.int .i64 rate) := B1.blk.cell 1
      have HB := hid B1
      clear B1
      go_wp2_with fail
      go_ret
      exact ⟨rfl, HB.out, g1⟩
end
end Go.Proofs.Ythkhjhjlmneaoaa

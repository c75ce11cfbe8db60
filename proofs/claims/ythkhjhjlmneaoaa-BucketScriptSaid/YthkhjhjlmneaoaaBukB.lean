/- bucket.Bucket: New, Take, Tokens, Full, When. -/
import Derived.Test.YthkhjhjlmneaoaaBukA
namespace Go.Proofs.Ythkhjhjlmneaoaa
open Go.BK Go.RowKit
set_option linter.unusedVariables false

def takeB (rate burst t a : Nat) (n now : Int) : Bool := decide (0 ≤ n ∧ n ≤ (fillT rate burst t a now : Int))
def takeT (rate burst t a : Nat) (n now : Int) : Nat := if n < 0 then t else if (fillT rate burst t a now : Int) < n then fillT rate burst t a now else fillT rate burst t a now - n.toNat
def takeA (a : Nat) (n now : Int) : Nat := if n < 0 then a else fillA a now

section
variable {w w' : World} {g rate burst t a : Nat}
theorem new_no (rate burst now : Int) (w : World) (h : ¬ ((cutN rate : Nat) : Int) = rate ∨ ¬ ((cutN burst : Nat) : Int) = burst ∨ now < 0 ∨ 1099511627776 < now) :
    Calls Try.prog 10 #[.int .i64 rate, .int .i64 burst, .int .i64 now] w fun e w' => e = .returned (.tuple #[.pointer none, .int .i64 2]) ∧ w = w' := by
  have c1 := hid (fun W => cut_any rate W)
  have c2 := hid (fun W => cut_any burst W)
  generalize cutN rate = x at *
  generalize cutN burst = y at *
  by_cases h1 : (x : Int) = rate
  · by_cases h2 : (y : Int) = burst
    · have c3 := hid (fun W => within_to now false (by rw [decide_eq_false_iff_not]; omega) W)
      clear h
      subst h1; subst h2
      go_enter Try.func10, Try.ntmps10
      go_wp2_with fail
      refine (c1.out _).mono ?_; rintro e wx ⟨rfl, rfl⟩
      go_wp2_with fail
      refine (c2.out _).mono ?_; rintro e wx ⟨rfl, rfl⟩
      go_wp2_with fail
      refine (c3.out _).mono ?_; rintro e wx ⟨rfl, rfl⟩
      go_wp2_with fail
      go_ret2
      exact ⟨rfl, rfl⟩
    · have q : ((y : Int) == burst) = false := by rw [beq_eq_false_iff_ne]; exact h2
      have q' : ((y : Int) != burst) = true := by rw [bne_iff_ne]; exact h2
      clear h h2
      subst h1
      go_enter Try.func10, Try.ntmps10
      go_wp2_with fail
      refine (c1.out _).mono ?_; rintro e wx ⟨rfl, rfl⟩
      go_wp2_with fail
      refine (c2.out _).mono ?_; rintro e wx ⟨rfl, rfl⟩
      go_wp2_with fail
      go_ret2
      exact ⟨rfl, rfl⟩
  · have q : ((x : Int) == rate) = false := by rw [beq_eq_false_iff_ne]; exact h1
    have q' : ((x : Int) != rate) = true := by rw [bne_iff_ne]; exact h1
    clear h h1
    go_enter Try.func10, Try.ntmps10
    go_wp2_with fail
    refine (c1.out _).mono ?_; rintro e wx ⟨rfl, rfl⟩
    go_wp2_with fail
    go_ret2
    exact ⟨rfl, rfl⟩
theorem new_ok (rate burst now : Nat) (w : World) (hr : rate ≤ 9007199254740992) (hb : burst ≤ 9007199254740992) (hn : now ≤ 1099511627776) :
    Calls Try.prog 10 #[.int .i64 rate, .int .i64 burst, .int .i64 now] w fun e w' => e = .returned (.tuple #[.pointer (some ⟨w.heap.size, 0, none⟩), .int .i64 0]) ∧ Bkt w' w.heap.size rate burst burst now ∧ Ext w w' := by
  have c1 := hid (fun W => cut_to (rate : Int) rate (cutN_of hr) W)
  have c2 := hid (fun W => cut_to (burst : Int) burst (cutN_of hb) W)
  have c3 := hid (fun W => within_to (now : Int) true (by rw [decide_eq_true_iff]; omega) W)
  go_enter Try.func10, Try.ntmps10
  go_wp2_with fail
  refine (c1.out _).mono ?_; rintro e wx ⟨rfl, rfl⟩
  go_wp2_with fail
  refine (c2.out _).mono ?_; rintro e wx ⟨rfl, rfl⟩
  go_wp2_with fail
  refine (c3.out _).mono ?_; rintro e wx ⟨rfl, rfl⟩
  go_wp2_with fail
  go_ret2
  exact ⟨rfl, ⟨hr, hb, Nat.le_refl _, hn, Blk.new w _ _⟩, ext_alloc _ _⟩

set_option maxRecDepth 100000 in
set_option maxHeartbeats 1000000 in
theorem take_any (n now : Int) (h : Bkt w g rate burst t a) (hn : -9223372036854775808 ≤ now ∧ now ≤ 9223372036854775807) :
    Calls Try.prog 12 #[.pointer (some ⟨g, 0, none⟩), .int .i64 n, .int .i64 now] w fun e w' => e = .returned (.bool (takeB rate burst t a n now)) ∧
      Bkt w' g rate burst (takeT rate burst t a n now) (takeA a n now) ∧ w.grownBy w' (some g) := by
  have cn := hid (none_ok h)
  have cf := hid (fill_any now h hn)
  have hbu := h.hb
  unfold takeB takeT takeA
  by_cases h0 : n < 0
  · rw [if_pos h0, if_pos h0, show decide (0 ≤ n ∧ n ≤ (fillT rate burst t a now : Int)) = false from by rw [decide_eq_false_iff_not]; omega]
    have H := hid h
    clear h
    go_enter Try.func12, Try.ntmps12
    go_wp2_with fail
    refine cn.out.mono ?_; rintro e w1 ⟨rfl, rfl⟩
    go_wp2_with fail
    go_ret
    exact ⟨rfl, H.out, grown_refl _ _⟩
  · rw [if_neg h0, if_neg h0]
    have htl := fillT_le (rate := rate) (a := a) now h.ht
    generalize fillT rate burst t a now = t1 at *
    generalize fillA a now = a1 at *
    clear h
    by_cases h1 : (t1 : Int) < n
    · rw [if_pos h1, show decide (0 ≤ n ∧ n ≤ (t1 : Int)) = false from by rw [decide_eq_false_iff_not]; omega]
      go_enter Try.func12, Try.ntmps12
      go_wp2_with fail
      refine cn.out.mono ?_; rintro e w1 ⟨rfl, rfl⟩
      go_wp2_with fail
      refine cf.out.mono ?_; rintro e w1 ⟨rfl, B1, g1⟩
      have q3 : w1.cell? ⟨g, 3, none⟩ = some (.int .i64 t1) := B1.blk.cell 3
      have HB := hid B1
      clear B1
      go_wp2_with fail
      go_ret
      exact ⟨rfl, HB.out, g1⟩
    · rw [if_neg h1, show decide (0 ≤ n ∧ n ≤ (t1 : Int)) = true from by rw [decide_eq_true_iff]; omega]
      obtain ⟨m, rfl⟩ : ∃ m : Nat, n = m := ⟨n.toNat, by omega⟩
      have hmt : m ≤ t1 := by omega
      have hsub : (t1 : Int) - m = ((t1 - m : Nat) : Int) := by omega
      have hdec : decide (t1 < m) = false := by rw [decide_eq_false_iff_not]; omega
      have HS := hid hsub
      clear h1 h0 hsub
      go_enter Try.func12, Try.ntmps12
      go_wp2_with fail
      refine cn.out.mono ?_; rintro e w1 ⟨rfl, rfl⟩
      go_wp2_with fail
      refine cf.out.mono ?_; rintro e w1 ⟨rfl, B1, g1⟩
      have q3 : w1.cell? ⟨g, 3, none⟩ = some (.int .i64 t1) := B1.blk.cell 3
      have qf : ∀ i, w1.frozen? ⟨g, i, none⟩ = false := B1.blk.frozen
      have HB := hid B1
      clear B1
      go_wp2_with fail
      go_ret
      have hgr := grown_of_set (g := g) (grown_refl w1 (some g)) (.inl rfl) 3 (.int .i64 ((t1 : Int) - m))
      refine ⟨rfl, ⟨HB.out.hr, hbu, by simp; omega, HB.out.ha, ?_⟩, grown_trans g1 hgr⟩
      have := HB.out.blk.set_ 3 (.int .i64 ((t1 : Int) - m))
      rw [HS.out] at this ⊢
      exact this
theorem tokens_any (now : Int) (h : Bkt w g rate burst t a) (hn : -9223372036854775808 ≤ now ∧ now ≤ 9223372036854775807) :
    Calls Try.prog 14 #[.pointer (some ⟨g, 0, none⟩), .int .i64 now] w fun e w' => e = .returned (.int .i64 (fillT rate burst t a now : Nat)) ∧
      Bkt w' g rate burst (fillT rate burst t a now) (fillA a now) ∧ w.grownBy w' (some g) := by
  have cn := hid (none_ok h)
  have cf := hid (fill_any now h hn)
  generalize fillT rate burst t a now = t1 at *
  generalize fillA a now = a1 at *
  clear h
  go_enter Try.func14, Try.ntmps14
  go_wp2_with fail
  refine cn.out.mono ?_; rintro e w1 ⟨rfl, rfl⟩
  go_wp2_with fail
  refine cf.out.mono ?_; rintro e w1 ⟨rfl, B1, g1⟩
  have q3 : w1.cell? ⟨g, 3, none⟩ = some (.int .i64 t1) := B1.blk.cell 3
  have HB := hid B1
  clear B1
  go_wp2_with fail
  go_ret
  exact ⟨rfl, HB.out, g1⟩
set_option maxHeartbeats 1000000 in
theorem full_any (now : Int) (h : Bkt w g rate burst t a) (hn : -9223372036854775808 ≤ now ∧ now ≤ 9223372036854775807) :
    Calls Try.prog 13 #[.pointer (some ⟨g, 0, none⟩), .int .i64 now] w fun e w' => e = .returned (.bool (fillT rate burst t a now == burst)) ∧
      Bkt w' g rate burst (fillT rate burst t a now) (fillA a now) ∧ w.grownBy w' (some g) := by
  have cn := hid (none_ok h)
  have cf := hid (fill_any now h hn)
  generalize fillT rate burst t a now = t1 at *
  generalize fillA a now = a1 at *
  clear h
  cases hq : t1 == burst with
  | true =>
    rw [beq_iff_eq] at hq
    subst hq
    go_enter Try.func13, Try.ntmps13
    go_wp2_with fail
    refine cn.out.mono ?_; rintro e w1 ⟨rfl, rfl⟩
    go_wp2_with fail
    refine cf.out.mono ?_; rintro e w1 ⟨rfl, B1, g1⟩
    have q2 : w1.cell? ⟨g, 2, none⟩ = some (.int .i64 t1) := B1.blk.cell 2
    have q3 : w1.cell? ⟨g, 3, none⟩ = some (.int .i64 t1) := B1.blk.cell 3
    have q4 : w1.cell? ⟨g, 4, none⟩ = some (.int .i64 a1) := B1.blk.cell 4
    have HB := hid B1
    clear B1
    go_wp2_with fail
    go_quiet (fail)
    go_wp2_with fail
    go_ret
    exact ⟨rfl, HB.out.ext (ext_drewN _ _), grown_trans g1 (grown_of_ext (ext_drewN _ _) _)⟩
  | false =>
    have hne : ((t1 : Int) == burst) = false := by rw [beq_eq_false_iff_ne]; rw [beq_eq_false_iff_ne] at hq; omega
    have hne2 : (t1 == burst) = false := hq
    clear hq
    go_enter Try.func13, Try.ntmps13
    go_wp2_with fail
    refine cn.out.mono ?_; rintro e w1 ⟨rfl, rfl⟩
    go_wp2_with fail
    refine cf.out.mono ?_; rintro e w1 ⟨rfl, B1, g1⟩
    have q2 : w1.cell? ⟨g, 2, none⟩ = some (.int .i64 burst) := B1.blk.cell 2
    have q3 : w1.cell? ⟨g, 3, none⟩ = some (.int .i64 t1) := B1.blk.cell 3
    have q4 : w1.cell? ⟨g, 4, none⟩ = some (.int .i64 a1) := B1.blk.cell 4
    have HB := hid B1
    clear B1
    go_wp2_with fail
    go_quiet (fail)
    go_wp2_with fail
    go_ret
    exact ⟨rfl, HB.out.ext (ext_drewN _ _), grown_trans g1 (grown_of_ext (ext_drewN _ _) _)⟩
end
end Go.Proofs.Ythkhjhjlmneaoaa

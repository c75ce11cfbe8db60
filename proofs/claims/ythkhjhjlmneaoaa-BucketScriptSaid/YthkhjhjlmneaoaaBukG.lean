/- The document's bucket: Take, Tokens, When. -/
import Derived.Test.YthkhjhjlmneaoaaBukE
import Derived.Test.YthkhjhjlmneaoaaBukT
namespace Go.Proofs.Ythkhjhjlmneaoaa
open Go.BK Go.RowKit
set_option linter.unusedVariables false

theorem when_half {r b t n low high : Nat} (hr : 0 < r) (ht : t < n) (hn : n ≤ b) (h1 : ¬ n ≤ t + r * low) (h2 : high = MT + 1 ∨ n ≤ t + r * high) (h3 : high = low + 1) (h4 : high ≤ MT + 1) :
    whenS r b t (n : Int) = if MT < high then -1 else (high : Int) := by
  unfold whenS
  rw [if_neg (by omega), if_neg (by omega), show ((n : Int)).toNat - t = n - t from by omega]
  have q1 : ¬ ceilD (n - t) r ≤ low := by
    rw [ceilD_le hr, Nat.mul_comm]; omega
  by_cases h5 : MT < high
  · rw [if_pos h5, if_pos (by omega)]
  · have q2 : ceilD (n - t) r ≤ high := by
      rw [ceilD_le hr, Nat.mul_comm]; omega
    rw [if_neg h5, if_neg (by omega)]
    omega
theorem half_test {r t n x : Nat} (hn : n ≤ SM) : (n ≤ addN t (mulN r x)) ↔ n ≤ t + r * x := by
  rw [mulN_eq]
  unfold addN
  omega

section
variable {w w' : World} {g rate burst t a : Nat}
set_option maxRecDepth 100000 in
set_option maxHeartbeats 1000000 in
theorem rtake_any (n now : Int) (h : RBk w g rate burst t a) (hn : -9223372036854775808 ≤ now ∧ now ≤ 9223372036854775807) :
    Calls Try.prog 20 #[.pointer (some ⟨g, 0, none⟩), .int .i64 n, .int .i64 now] w fun e w' => e = .returned (.bool (takeB rate burst t a n now)) ∧
      RBk w' g rate burst (takeT rate burst t a n now) (takeA a n now) ∧ w.grownBy w' (some g) := by
  have cf := hid (rfill_any now h hn)
  have hbu := h.hb
  unfold takeB takeT takeA
  by_cases h0 : n < 0
  · rw [if_pos h0, if_pos h0, show decide (0 ≤ n ∧ n ≤ (fillT rate burst t a now : Int)) = false from by rw [decide_eq_false_iff_not]; omega]
    have H := hid h
    clear h
    go_enter Try.func20, Try.ntmps20
    go_wp2_with fail
    go_ret
    exact ⟨rfl, H.out, grown_refl _ _⟩
  · rw [if_neg h0, if_neg h0]
    have htl := fillT_le (rate := rate) (a := a) now h.ht
    generalize fillT rate burst t a now = t1 at *
    generalize fillA a now = a1 at *
    clear h
    by_cases h1 : (t1 : Int) < n
    · rw [if_pos h1, show decide (0 ≤ n ∧ n ≤ (t1 : Int)) = false from by rw [decide_eq_false_iff_not]; omega]
      go_enter Try.func20, Try.ntmps20
      go_wp2_with fail
      refine cf.out.mono ?_; rintro e w1 ⟨rfl, B1, g1⟩
      have q3 : w1.cell? ⟨g, 2, none⟩ = some (.int .i64 t1) := B1.blk.cell 2
      have HB := hid B1
      clear B1
      go_wp2_with fail
      go_ret
      exact ⟨rfl, HB.out, g1⟩
    · rw [if_neg h1, show decide (0 ≤ n ∧ n ≤ (t1 : Int)) = true from by rw [decide_eq_true_iff]; omega]
      obtain ⟨m, rfl⟩ : ∃ m : Nat, n = m := ⟨n.toNat, by omega⟩
      have hmt : m ≤ t1 := by omega
      have hsub : (t1 : Int) - m = ((t1 - m : Nat) : Int) := by omega
      have hdec : decide (t1 < m) = false := by rw [decide_eq_false_iff_not]; omega
      have HS := hid hsub
      clear h1 h0 hsub
      go_enter Try.func20, Try.ntmps20
      go_wp2_with fail
      refine cf.out.mono ?_; rintro e w1 ⟨rfl, B1, g1⟩
      have q3 : w1.cell? ⟨g, 2, none⟩ = some (.int .i64 t1) := B1.blk.cell 2
      have qf : ∀ i, w1.frozen? ⟨g, i, none⟩ = false := B1.blk.frozen
      have HB := hid B1
      clear B1
      go_wp2_with fail
      go_ret
      have hgr := grown_of_set (g := g) (grown_refl w1 (some g)) (.inl rfl) 2 (.int .i64 ((t1 : Int) - m))
      refine ⟨rfl, ⟨HB.out.hr, hbu, by simp; omega, HB.out.ha, ?_⟩, grown_trans g1 hgr⟩
      have := HB.out.blk.set_ 2 (.int .i64 ((t1 : Int) - m))
      rw [HS.out] at this ⊢
      exact this
theorem rtokens_any (now : Int) (h : RBk w g rate burst t a) (hn : -9223372036854775808 ≤ now ∧ now ≤ 9223372036854775807) :
    Calls Try.prog 18 #[.pointer (some ⟨g, 0, none⟩), .int .i64 now] w fun e w' => e = .returned (.int .i64 (fillT rate burst t a now : Nat)) ∧
      RBk w' g rate burst (fillT rate burst t a now) (fillA a now) ∧ w.grownBy w' (some g) := by
  have cf := hid (rfill_any now h hn)
  generalize fillT rate burst t a now = t1 at *
  generalize fillA a now = a1 at *
  clear h
  go_enter Try.func18, Try.ntmps18
  go_wp2_with fail
  refine cf.out.mono ?_; rintro e w1 ⟨rfl, B1, g1⟩
  have q3 : w1.cell? ⟨g, 2, none⟩ = some (.int .i64 t1) := B1.blk.cell 2
  have HB := hid B1
  clear B1
  go_wp2_with fail
  go_ret
  exact ⟨rfl, HB.out, g1⟩
end
end Go.Proofs.Ythkhjhjlmneaoaa

/- BucketNew: a full bucket is as good as a new one. -/
import Derived.Test.YthkhjhjlmneaoaaBukO
import Derived.Deep.RegionHeld3
namespace Go.Proofs.Ythkhjhjlmneaoaa
open Go.BK Go.RowKit
set_option linter.unusedVariables false

def nxt (nw : Nat) (x : Int) : Nat := if x < 0 ∨ 1099511627776 - (nw : Int) < x then nw else nw + x.toNat
theorem nxt_le {nw : Nat} {x : Int} (h : nw ≤ 1099511627776) : nxt nw x ≤ 1099511627776 ∧ nw ≤ nxt nw x := by unfold nxt; split <;> omega
theorem next_to (nw : Nat) (x : Int) (w : World) (h : nw ≤ 1099511627776) (hx : -9223372036854775808 ≤ x ∧ x ≤ 9223372036854775807) :
    Calls Try.prog 11 #[.int .i64 nw, .int .i64 x] w fun e w' => e = .returned (.int .i64 (nxt nw x : Nat)) ∧ w = w' := by
  unfold nxt
  by_cases h1 : x < 0
  · rw [if_pos (.inl h1)]
    have q1 : decide (x < 0) = true := by rw [decide_eq_true_iff]; exact h1
    clear h1
    go_enter Try.func11, Try.ntmps11
    go_wp2_with fail
    go_ret
    exact ⟨rfl, rfl⟩
  · have q1 : decide (x < 0) = false := by rw [decide_eq_false_iff_not]; exact h1
    by_cases h2 : 1099511627776 - (nw : Int) < x
    · rw [if_pos (.inr h2)]
      have q2 : decide (1099511627776 - (nw : Int) < x) = true := by rw [decide_eq_true_iff]; exact h2
      clear h1 h2
      go_enter Try.func11, Try.ntmps11
      go_wp2_with fail
      go_ret
      exact ⟨rfl, rfl⟩
    · rw [if_neg (by omega)]
      have q2 : decide (1099511627776 - (nw : Int) < x) = false := by rw [decide_eq_false_iff_not]; exact h2
      have e : ((nw + x.toNat : Nat) : Int) = nw + x := by omega
      rw [e]
      clear e
      go_enter Try.func11, Try.ntmps11
      go_wp2_with fail
      go_ret
      exact ⟨rfl, rfl⟩
theorem next_eq (nw nw2 : Nat) (x : Int) (w : World) (h : nw ≤ 1099511627776) (hx : -9223372036854775808 ≤ x ∧ x ≤ 9223372036854775807) (e : nw2 = nxt nw x) :
    Calls Try.prog 11 #[.int .i64 nw, .int .i64 x] w fun e w' => e = .returned (.int .i64 nw2) ∧ w = w' := by subst e; exact next_to nw x w h hx
theorem takeA_le {r b t a nw : Nat} (x : Int) (ht : t ≤ b) (hb : b ≤ SM) (h : a ≤ nw) (hm : nw ≤ MT) : takeA a x nw ≤ nw := by
  unfold takeA
  split
  · exact h
  · rw [(fill_to (rate := r) ht hb h hm).2]; exact Nat.le_refl _
theorem AskR.cells {w : World} {A : Option Addr} {n c : Nat} {N B : Nat → Int} (h : AskR w A n c N B) {k : Nat} (hk : k < n) :
    ∃ b o, A = some ⟨b, o, none⟩ ∧ (-9223372036854775808 ≤ N k ∧ N k ≤ 9223372036854775807) ∧ (-9223372036854775808 ≤ B k ∧ B k ≤ 9223372036854775807) ∧
      (∀ W', Below w.heap.size w W' → W'.cell? ⟨b, o + k * 2, none⟩ = some (.int .i64 (N k))) ∧ (∀ W', Below w.heap.size w W' → W'.cell? ⟨b, o + k * 2 + 1, none⟩ = some (.int .i64 (B k))) := by
  obtain ⟨b, o, h1, h2, h3, h4, h5, h6⟩ := h.2.2 k hk
  exact ⟨b, o, h1, h5, h6, fun W' e => by rw [e.cell h2]; exact h3, fun W' e => by rw [e.cell h2]; exact h4⟩

def Takes (f : FuncId) (r b t a : Nat) (x : Int) (nw : Nat) (tb : Bool) (t1 a1 : Nat) : Prop := ∀ W g, Bkt W g r b t a →
  Calls Try.prog f #[.pointer (some ⟨g, 0, none⟩), .int .i64 x, .int .i64 nw] W fun e w' => e = .returned (.bool tb) ∧ Bkt w' g r b t1 a1 ∧ W.grownBy w' (some g)
def Tells (f : FuncId) (r b t a : Nat) (nw t1 a1 : Nat) : Prop := ∀ W g, Bkt W g r b t a →
  Calls Try.prog f #[.pointer (some ⟨g, 0, none⟩), .int .i64 nw] W fun e w' => e = .returned (.int .i64 (t1 : Nat)) ∧ Bkt w' g r b t1 a1 ∧ W.grownBy w' (some g)
end Go.Proofs.Ythkhjhjlmneaoaa

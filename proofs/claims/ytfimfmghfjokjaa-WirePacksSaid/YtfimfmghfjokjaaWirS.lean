/- Layer 5: which name stands at a place, plainly. -/
import Derived.Test.YtfimfmghfjokjaaOctR
namespace Go.Proofs.Ytfimfmghfjokjaa
open Go.BK Go.RowKit
set_option linter.unusedVariables false
/-- The name from a place on: what was told ahead, where this part began, where one stands, where the name ends (below 0: not known yet). Told: the bytes, the end, the error, its place. -/
def rdS (l : List UInt8) (at_ : Int) (out : List UInt8) (part i : Nat) (behind : Int) : List UInt8 × Int × Int × Int :=
  if l.length ≤ i then ([], 0, 4, l.length)
  else if (l.getD i 0).toNat = 0 then (out ++ [0], if behind < 0 then (i : Int) + 1 else behind, 0, 0)
  else if 192 ≤ (l.getD i 0).toNat then
    if l.length < i + 2 then ([], 0, 4, l.length)
    else if part ≤ ((l.getD i 0).toNat - 192) * 256 + (l.getD (i + 1) 0).toNat then ([], 0, 150, i)
    else rdS l at_ out (((l.getD i 0).toNat - 192) * 256 + (l.getD (i + 1) 0).toNat) (((l.getD i 0).toNat - 192) * 256 + (l.getD (i + 1) 0).toNat) (if behind < 0 then (i : Int) + 2 else behind)
  else if 63 < (l.getD i 0).toNat then ([], 0, 4, i)
  else if l.length < i + 1 + (l.getD i 0).toNat then ([], 0, 4, l.length)
  else if 254 < out.length + (1 + (l.getD i 0).toNat) then ([], 0, 3, at_)
  else rdS l at_ (out ++ (l.drop i).take (1 + (l.getD i 0).toNat)) part (i + 1 + (l.getD i 0).toNat) behind
termination_by part * (l.length + 1) + (l.length - i)
decreasing_by
  · rename_i h1 h2 h3 h4 h5
    generalize ((l.getD i 0).toNat - 192) * 256 + (l.getD (i + 1) 0).toNat = n at *
    have : (n + 1) * (l.length + 1) ≤ part * (l.length + 1) := Nat.mul_le_mul_right _ (by omega)
    rw [Nat.add_mul] at this
    omega
  · omega
/-- Read: P5.1. -/
def readS (l : List UInt8) (at_ : Int) : List UInt8 × Int × Int × Int :=
  if at_ < 0 ∨ (l.length : Int) < at_ then ([], 0, 5, 0) else rdS l at_ [] at_.toNat at_.toNat (-1)

section
variable {l : List UInt8} {at_ : Int} {out : List UInt8} {part i c : Nat} {behind : Int}
theorem rdS_end (h : l.length ≤ i) : rdS l at_ out part i behind = ([], 0, 4, (l.length : Int)) := by rw [rdS, if_pos h]
theorem rdS_zero (h : i < l.length) (hc : (l.getD i 0).toNat = 0) : rdS l at_ out part i behind = (out ++ [0], if behind < 0 then (i : Int) + 1 else behind, 0, 0) := by rw [rdS, if_neg (by omega), if_pos hc]
theorem rdS_short (h : i < l.length) (hc : 192 ≤ (l.getD i 0).toNat) (h2 : l.length < i + 2) : rdS l at_ out part i behind = ([], 0, 4, (l.length : Int)) := by rw [rdS, if_neg (by omega), if_neg (by omega), if_pos hc, if_pos h2]
theorem rdS_loop {n : Nat} (h : i < l.length) (hc : 192 ≤ (l.getD i 0).toNat) (h2 : i + 2 ≤ l.length) (hn : ((l.getD i 0).toNat - 192) * 256 + (l.getD (i + 1) 0).toNat = n) (hp : part ≤ n) : rdS l at_ out part i behind = ([], 0, 150, (i : Int)) := by
  rw [rdS, if_neg (by omega), if_neg (by omega), if_pos hc, if_neg (by omega), if_pos (by omega)]
theorem rdS_go {n : Nat} (h : i < l.length) (hc : 192 ≤ (l.getD i 0).toNat) (h2 : i + 2 ≤ l.length) (hn : ((l.getD i 0).toNat - 192) * 256 + (l.getD (i + 1) 0).toNat = n) (hp : n < part) : rdS l at_ out part i behind = rdS l at_ out n n (if behind < 0 then (i : Int) + 2 else behind) := by
  subst hn
  rw [rdS, if_neg (by omega), if_neg (by omega), if_pos hc, if_neg (by omega), if_neg (by omega)]
theorem rdS_odd (h : i < l.length) (hc : (l.getD i 0).toNat < 192) (h2 : 63 < (l.getD i 0).toNat) : rdS l at_ out part i behind = ([], 0, 4, (i : Int)) := by
  rw [rdS, if_neg (by omega), if_neg (by omega), if_neg (by omega), if_pos h2]
theorem rdS_cut (h : i < l.length) (h0 : (l.getD i 0).toNat ≠ 0) (h2 : (l.getD i 0).toNat ≤ 63) (h3 : l.length < i + 1 + (l.getD i 0).toNat) : rdS l at_ out part i behind = ([], 0, 4, (l.length : Int)) := by
  rw [rdS, if_neg (by omega), if_neg h0, if_neg (by omega), if_neg (by omega), if_pos h3]
theorem rdS_long (h : i < l.length) (h0 : (l.getD i 0).toNat ≠ 0) (h2 : (l.getD i 0).toNat ≤ 63) (h3 : i + 1 + (l.getD i 0).toNat ≤ l.length) (h4 : 254 < out.length + (1 + (l.getD i 0).toNat)) : rdS l at_ out part i behind = ([], 0, 3, at_) := by
  rw [rdS, if_neg (by omega), if_neg h0, if_neg (by omega), if_neg (by omega), if_neg (by omega), if_pos h4]
theorem rdS_label (h : i < l.length) (h0 : (l.getD i 0).toNat ≠ 0) (h2 : (l.getD i 0).toNat ≤ 63) (h3 : i + 1 + (l.getD i 0).toNat ≤ l.length) (h4 : out.length + (1 + (l.getD i 0).toNat) ≤ 254) :
    rdS l at_ out part i behind = rdS l at_ (out ++ (l.drop i).take (1 + (l.getD i 0).toNat)) part (i + 1 + (l.getD i 0).toNat) behind := by
  rw [rdS, if_neg (by omega), if_neg h0, if_neg (by omega), if_neg (by omega), if_neg (by omega), if_neg (by omega)]
end
end Go.Proofs.Ytfimfmghfjokjaa

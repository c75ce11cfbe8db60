/- The contracts of octet.get and Get16. -/
import Derived.Test.YtfimfmghfjokjaaOctQ
namespace Go.Proofs.Ytfimfmghfjokjaa
open Go.BK Go.RowKit
set_option linter.unusedVariables false

theorem at_in' {A : Option Addr} {c : Nat} {l : List UInt8} {w : World} (a : Int) (k : Nat) (b : UInt8) (ha : a = k) (h : Rd w A c l) (hk : k < l.length) (hb : l.getD k 0 = b) :
    Calls Try.prog 36 #[.slice A l.length c, .int .i64 a] w fun e w' => e = .returned (.tuple #[u8v b, .int .i64 0]) ∧ Ext w w' := by
  subst ha; subst hb; exact at_in k h hk
theorem at_out' {A : Option Addr} {c : Nat} {l : List UInt8} {w : World} (a : Int) (k : Nat) (ha : a = k) (h : Rd w A c l) (hk : l.length ≤ k) (hk2 : k ≤ 9223372036854775807) :
    Calls Try.prog 36 #[.slice A l.length c, .int .i64 a] w fun e w' => e = .returned (.tuple #[.int .u8 0, .int .i64 4]) ∧ Ext w w' := by
  subst ha; exact at_out k h hk hk2

set_option maxHeartbeats 1000000 in
/-- octet.get. -/
theorem get_any {A : Option Addr} {c : Nat} {l : List UInt8} {w : World} (a : Int) (s : Nat) (h : Rd w A c l) (hl : l.length ≤ 140737488355328) (hs : s ≤ 4) (ha : -9223372036854775808 ≤ a ∧ a ≤ 9223372036854775807) :
    Calls Try.prog 32 #[.slice A l.length c, .int .i64 a, .int .i64 s] w fun e w' =>
      e = .returned (.tuple #[.int .i64 (getS l a s).1, .int .i64 (getS l a s).2.1, .agg #[.int .i64 (getS l a s).2.2.1, .int .i64 (getS l a s).2.2.2]]) ∧ Ext w w' := by
  by_cases h1 : a < 0
  · have e1 : getS l a s = (0, 0, 5, 0) := by unfold getS; rw [if_pos (.inl h1)]
    rw [e1]
    clear e1
    go_enter Try.func32, Try.ntmps32
    go_wp2
    go_returns
    exact ⟨rfl, by go_grown⟩
  · by_cases h2 : (l.length : Int) < a
    · have e1 : getS l a s = (0, 0, 5, 0) := by unfold getS; rw [if_pos (.inr h2)]
      rw [e1]
      clear e1
      go_enter Try.func32, Try.ntmps32
      go_wp2
      go_returns
      exact ⟨rfl, by go_grown⟩
    · obtain ⟨f, rfl⟩ := Int.eq_ofNat_of_zero_le (show 0 ≤ a by omega)
      have hf : f ≤ l.length := by omega
      go_enter Try.func32, Try.ntmps32
      go_wp2_with fail
      go_loopw [9, 23] (fun n i wr => ∃ k : Nat, k ≤ s ∧ i = .int .i64 k ∧ f + k ≤ l.length ∧ n = .int .i64 (num ((l.drop f).take k)) ∧ Blk wr w.heap.size 26 #[.int .i64 0, .int .i64 0] ∧ Ext w wr) (fun _ i _ => s - (intOf i).toNat)
      case atStart => exact ⟨0, Nat.zero_le _, rfl, by omega, by simp [num], Blk.new _ _ _, by go_grown⟩
      case round =>
        obtain ⟨k, hk, rfl, hfk, rfl, hblk, hext⟩ := hrel
        have hrd := h.ext hext
        have hsz := hblk.lt
        by_cases hlt : k < s
        · by_cases hin : f + k < l.length
          · have hnt := num_take l f k hin
            have hor := or_byte (num ((l.drop f).take k)) (l.getD (f + k) 0).toNat (num_take_le l f k (by omega)) (UInt8.toNat_lt _)
            have hle := num_take_le l f k (by omega)
            have hb : (l.getD (f + k) 0).toNat < 256 := UInt8.toNat_lt _
            obtain ⟨q, hq⟩ : ∃ q, q = num ((l.drop f).take k) := ⟨_, rfl⟩
            obtain ⟨b, hbb⟩ : ∃ b, b = l.getD (f + k) 0 := ⟨_, rfl⟩
            rw [← hq] at hor hle hnt ⊢
            rw [← hbb] at hor hb hnt
            have Hnt := hid hnt
            have Hbb := hid hbb
            clear hnt hbb hq
            go_wp2_with (go_at_call 36; refine (at_in' _ (f + k) b (by omega) hrd hin Hbb.out.symm).mono ?_; rintro e w1 ⟨rfl, hext1⟩)
            exact ⟨⟨k + 1, by omega, by go_num, by omega, by rw [Hnt.out]; go_num, hblk.ext hext1, ext_trans hext hext1⟩, by simp [intOf]; omega⟩
          · have e1 : getS l f s = (0, 0, 4, (l.length : Int)) := by unfold getS; rw [if_neg (by omega), if_neg (by omega)]
            have E1 := hid e1
            clear e1
            generalize num ((l.drop f).take k) = q at *
            go_wp2_with (go_at_call 36; refine (at_out' _ (f + k) (by omega) hrd (by omega) (by omega)).mono ?_; rintro e w1 ⟨rfl, hext1⟩; have hb1 : Below w.heap.size w w1 := ext_trans hext hext1; obtain ⟨hq1, hq2, hq3⟩ := (hblk.ext hext1).two)
            refine bodyPost_ret (by simp [results, Try.results32, go_sem, hq1, hq2]; rfl) rfl ?_
            refine ⟨?_, by go_grown⟩
            rw [E1.out]
        · obtain rfl : k = s := by omega
          have e1 : getS l f k = ((num ((l.drop f).take k) : Int), (f : Int) + k, 0, 0) := by unfold getS; rw [if_neg (by omega), if_pos (by simpa using hfk)]; simp
          obtain ⟨q, hq⟩ : ∃ q, q = num ((l.drop f).take k) := ⟨_, rfl⟩
          rw [← hq] at e1 ⊢
          have E1 := hid e1
          clear e1 hq
          obtain ⟨hq1, hq2, hq3⟩ := hblk.two
          go_wp2
          refine bodyPost_ret (by simp [results, Try.results32, go_sem, hq1, hq2]; rfl) rfl ?_
          refine ⟨?_, by go_grown⟩
          rw [E1.out]

set_option maxHeartbeats 1000000 in
theorem get16_any {A : Option Addr} {c : Nat} {l : List UInt8} {w : World} (a : Int) {v n f x : Int} (h : Rd w A c l) (hl : l.length ≤ 140737488355328) (ha : -9223372036854775808 ≤ a ∧ a ≤ 9223372036854775807) (hg : getS l a 2 = (v, n, f, x)) :
    Calls Try.prog 26 #[.slice A l.length c, .int .i64 a] w fun e w' => e = .returned (.tuple #[.int .i64 v, .int .i64 n, .agg #[.int .i64 f, .int .i64 x]]) ∧ Ext w w' := by
  have C := hid (fun W (hW : Rd W A c l) => get_any (w := W) a 2 hW hl (by decide) ha)
  rw [hg] at C
  clear hg hl ha
  go_enter Try.func26, Try.ntmps26
  go_wp2_with fail
  refine (C.out _ (h.ext (ext_alloc _ _))).mono ?_
  rintro e w1 ⟨rfl, x1⟩
  have K1 := (Blk.new w 26 #[.int .i64 0, .int .i64 0]).ext x1
  obtain ⟨k0, k1, kf⟩ := K1.two
  have hx := ext_trans (ext_alloc _ _) x1
  go_wp2_with fail
  have q0 := ((K1.set_ 0 (.int .i64 f)).set_ 1 (.int .i64 x)).cell 0
  have q1 := ((K1.set_ 0 (.int .i64 f)).set_ 1 (.int .i64 x)).cell 1
  simp at q0 q1
  refine bodyPost_ret (by simp [results, Try.results26, go_sem, q0, q1]; rfl) rfl ?_
  exact ⟨rfl, (hx.setCell (p := ⟨w.heap.size, 0, none⟩) (Nat.le_refl _) _).setCell (p := ⟨w.heap.size, 1, none⟩) (Nat.le_refl _) _⟩
end Go.Proofs.Ytfimfmghfjokjaa

/- The contract of the reference's get. -/
import Derived.Test.YtcbfpillplhgnaaOctetE
namespace Go.Proofs.Ytcbfpillplhgnaa
open Go.BK Go.RowKit
set_option linter.unusedVariables false

set_option maxHeartbeats 1000000 in
theorem refget_no {A : Option Addr} {c : Nat} {l : List UInt8} {w : World} (a : Int) (s : Nat) (er x : Int) (h : Rd w A c l) (hl : l.length ≤ 140737488355328) (hs : s ≤ 4) (ha : -9223372036854775808 ≤ a ∧ a ≤ 9223372036854775807)
    (hb : bytesS l a s = ([], 0, er, x)) (hne : (er != 0) = true) :
    Calls Try.prog 29 #[.slice A l.length c, .int .i64 a, .int .i64 s] w fun e w' =>
      e = .returned (.tuple #[.int .i64 0, .int .i64 0, .agg #[.int .i64 er, .int .i64 x]]) ∧ Ext w w' := by
  have hcall := fun W (hW : Rd W A c l) => refbytes_any (w := W) a s hW hl ha (by omega)
  rw [hb] at hcall
  have H := hid hcall
  clear hcall hb
  go_enter Try.func29, Try.ntmps29
  go_wp2_with (go_at_call 23; refine (H.out _ (h.ext (ext_alloc _ _))).mono ?_; rintro e w1 ⟨A', c', rfl, hown, hext⟩; have hb1 : Below w.heap.size w w1 := Below.trans (ext_alloc w (.cells #[.int .i64 0, .int .i64 0] 31)) (hext.mono (by simp)); obtain ⟨hq1, hq2, hq3⟩ := (Blk.ext (Blk.new w 31 #[.int .i64 0, .int .i64 0]) hext).two; have hz : w.heap.size < w1.heap.size := by have := hext.size; simp at this; omega)
  go_region
  go_wp2
  refine bodyPost_ret (by simp [results, Try.results29, go_sem, hq1, hq2, hz]; rfl) rfl ?_
  exact ⟨rfl, by go_grown⟩

set_option maxHeartbeats 1000000 in
theorem refget_yes {A : Option Addr} {c : Nat} {l : List UInt8} {w : World} (f : Nat) (s : Nat) (h : Rd w A c l) (hl : l.length ≤ 140737488355328) (hs : s ≤ 4) (hf : f + s ≤ l.length) :
    Calls Try.prog 29 #[.slice A l.length c, .int .i64 f, .int .i64 s] w fun e w' =>
      e = .returned (.tuple #[.int .i64 (num ((l.drop f).take s)), .int .i64 ((f : Int) + s), .agg #[.int .i64 0, .int .i64 0]]) ∧ Ext w w' := by
  have hb : bytesS l f s = ((l.drop f).take s, (f : Int) + s, 0, 0) := by unfold bytesS; rw [if_neg (by omega), if_neg (by omega), if_neg (by omega)]; simp
  have hcall := fun W (hW : Rd W A c l) => refbytes_any (w := W) f s hW hl (by omega) (by omega)
  have hlen : ((l.drop f).take s).length = s := by simp; omega
  rw [hb] at hcall
  simp only [hlen] at hcall
  obtain ⟨r, hr⟩ : ∃ r, r = (l.drop f).take s := ⟨_, rfl⟩
  rw [← hr] at hcall hlen ⊢
  have H := hid hcall
  have HL := hid hlen
  clear hcall hb hlen hr
  go_enter Try.func29, Try.ntmps29
  go_wp2_with (go_at_call 23; refine (H.out _ (h.ext (ext_alloc _ _))).mono ?_; rintro e w1 ⟨A', c', rfl, hown, hext⟩; have hb1 : Below w.heap.size w w1 := Below.trans (ext_alloc w (.cells #[.int .i64 0, .int .i64 0] 31)) (hext.mono (by simp)); obtain ⟨hq1, hq2, hq3⟩ := (Blk.ext (Blk.new w 31 #[.int .i64 0, .int .i64 0]) hext).two; have hz : w.heap.size < w1.heap.size := by have := hext.size; simp at this; omega)
  have hblk0 : Blk w1 w.heap.size 31 #[.int .i64 0, .int .i64 0] := Blk.ext (Blk.new w 31 #[.int .i64 0, .int .i64 0]) hext
  have hrs : r.length ≤ 4 := by have := HL.out; omega
  have hle : ∀ k, num (r.take k) ≤ 4294967295 := fun k => by
    have h1 := num_take_le (r.take k) 0 4 (by omega)
    rw [List.drop_zero, List.take_of_length_le (by simp; omega)] at h1
    exact h1
  have hRd : Rd (w1.alloc (.cells #[.int .i64 0, .int .i64 0] 31)) A' c' r := hown.rd.ext (ext_alloc _ _)
  have Hle := hid hle
  clear hle h
  go_loop [12, 13] (fun n i => ∃ k : Nat, k ≤ s ∧ i = .int .i64 k ∧ n = .int .i64 (num (r.take k))) (fun _ i => s - (intOf i).toNat)
  case atStart => exact ⟨0, Nat.zero_le _, rfl, by simp [num]⟩
  case round =>
    obtain ⟨k, hk, rfl, rfl⟩ := hrel
    by_cases hlt : k < s
    · have hnt := hid (num_take0 r k (by have := HL.out; omega))
      have hq := Hle.out k
      obtain ⟨b, o, rfl, _, hc⟩ := hRd.at_ (k := k) (by have := HL.out; omega)
      have hb : (r.getD k 0).toNat < 256 := UInt8.toNat_lt _
      obtain ⟨x, hx⟩ : ∃ x, x = r.getD k 0 := ⟨_, rfl⟩
      rw [← hx] at hc hb hnt
      obtain ⟨q, hqq⟩ : ∃ q, q = num (r.take k) := ⟨_, rfl⟩
      rw [← hqq] at hq hnt ⊢
      clear hx hqq
      go_wp2
      go_round
      case rel => exact ⟨k + 1, by omega, by go_num, by rw [hnt.out]; go_num⟩
      case measure => simp [intOf]; omega
    · obtain rfl : k = s := by omega
      rw [List.take_of_length_le (by have := HL.out; omega)]
      have hq := Hle.out r.length
      rw [List.take_of_length_le (Nat.le_refl _)] at hq
      obtain ⟨q, hqq⟩ : ∃ q, q = num r := ⟨_, rfl⟩
      rw [← hqq] at hq ⊢
      have HQ := hid hqq
      clear hqq
      clear hRd
      go_wp2
      go_region
      go_wp2
      refine bodyPost_ret (by simp [results, Try.results29, go_sem, hq1, hq2, hz]; rfl) rfl ?_
      exact ⟨by rw [HQ.out], by go_grown⟩

theorem refget_any {A : Option Addr} {c : Nat} {l : List UInt8} {w : World} (a : Int) (s : Nat) (h : Rd w A c l) (hl : l.length ≤ 140737488355328) (hs : s ≤ 4) (ha : -9223372036854775808 ≤ a ∧ a ≤ 9223372036854775807) :
    Calls Try.prog 29 #[.slice A l.length c, .int .i64 a, .int .i64 s] w fun e w' =>
      e = .returned (.tuple #[.int .i64 (getS l a s).1, .int .i64 (getS l a s).2.1, .agg #[.int .i64 (getS l a s).2.2.1, .int .i64 (getS l a s).2.2.2]]) ∧ Ext w w' := by
  unfold getS
  split
  · next h1 => exact refget_no a s 5 0 h hl hs ha (by unfold bytesS; rw [if_neg (by omega), if_pos h1]) (by decide)
  · next h1 =>
    obtain ⟨f, rfl⟩ := Int.eq_ofNat_of_zero_le (show 0 ≤ a by omega)
    split
    · next h2 => exact refget_yes f s h hl hs (by simpa using h2)
    · next h2 => exact refget_no f s 4 l.length h hl hs ha (by simp at h2; unfold bytesS; rw [if_neg (by omega), if_neg (by omega), if_pos (by omega)]) (by decide)

end Go.Proofs.Ytcbfpillplhgnaa

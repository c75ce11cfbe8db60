/- The contract of octet.Put16. -/
import Derived.Test.YtfimfmghfjokjaaKBase
import Derived.Test.YtfimfmghfjokjaaOctetA
namespace Go.Proofs.Ytfimfmghfjokjaa
open Go.BK Go.RowKit
set_option linter.unusedVariables false

theorem u8_div (n d : Nat) : IntKind.u8.wrap ((n : Int) / (d : Int)) = ((UInt8.ofNat (n / d)).toNat : Int) := by
  rw [← Int.natCast_ediv, IntKind.wrap_u8]; simp
theorem u8_div1 (n : Nat) : IntKind.u8.wrap (n : Int) = ((UInt8.ofNat n).toNat : Int) := by
  rw [IntKind.wrap_u8]; simp

set_option maxHeartbeats 2000000 in
/-- octet.put[[2]byte], where the number has so many bytes. -/
theorem put2_yes (n : Nat) (w : World) (hn : n < 256 ^ 2) :
    Calls Try.prog 34 #[.int .i64 n] w fun e w' => ∃ A c, e = .returned (.tuple #[.slice A 2 c, .int .i64 0]) ∧ Own w' w.heap.size 5 A c (be 2 n) ∧ Ext w w' := by
  have hn' : n < 65536 := by simpa using hn
  have hsh : ((n : Int) / 65536 != 0) = false := by rw [bne_eq_false_iff_eq]; omega
  obtain ⟨i0, hi, hz0, hz1, hz2⟩ := info_parts info_u8
  have hcs : ∀ W : World, Blk W w.heap.size 74 #[.int .u8 0, .int .u8 0] → W.cell? ⟨w.heap.size, 0, none⟩ = some (.int .u8 0) ∧ W.cell? ⟨w.heap.size, 1, none⟩ = some (.int .u8 0) := fun W h => ⟨h.cell 0, h.cell 1⟩
  have hW0 := hcs _ (Blk.new w 74 #[.int .u8 0, .int .u8 0])
  clear hn
  go_enter Try.func34, Try.ntmps34
  go_wp2_with fail
  go_loopw [5, 19] (fun o i wr => ∃ k : Nat, k ≤ 2 ∧ i = .int .i64 k ∧ (∃ A c, o = .slice A k c ∧ Own wr (w.heap.size + 1) 5 A c ((be 2 n).take k)) ∧ Blk wr w.heap.size 74 #[.int .u8 0, .int .u8 0] ∧ Ext w wr) (fun _ i _ => 2 - (intOf i).toNat)
  case atStart => exact ⟨0, Nat.zero_le _, rfl, ⟨none, 0, rfl, Own.nil _ _ _⟩, Blk.new _ _ _, by go_grown⟩
  case round =>
    clear hW0
    obtain ⟨k, hk, rfl, ⟨A, c, rfl, hown⟩, hblk, hext⟩ := hrel
    have hW := hcs _ hblk
    obtain ⟨hq0, hq1⟩ := hW
    have hsz := hblk.lt
    have hown' : OwnG isU8 wr (w.heap.size + 1) 5 1 A k c (((be 2 n).take k).map u8v) := by
      have := hown; unfold Own at this; rwa [be_take_len 2 n k hk] at this
    rcases (show k = 0 ∨ k = 1 ∨ k = 2 from by omega) with rfl | rfl | rfl
    · have hx : IntKind.u8.wrap ((n : Int) / 256) = ((UInt8.ofNat (n / 256)).toNat : Int) := u8_div n 256
      have het : (be 2 n).take 1 = (be 2 n).take 0 ++ [UInt8.ofNat (n / 256)] := by rw [be_take 2 n 0 (by decide)] <;> simp
      have Het := hid het
      clear het hown
      go_wp2_with (at_builtin; refine wpList_append_1 rfl (.tmp 22) (.tmp 32) 22 rfl (w.heap.size + 1) 5 i0 (.int .u8 0) 1 Try.underlying22 hi hz0 hz1 hz2 rfl ⟨0, rfl⟩ (fun _ h => h.one) rfl hown' (u8v (UInt8.ofNat (n / 256))) rfl ⟨_, rfl⟩ (by omega) (by unfold maxLen; omega) (by omega) ?_; intro A' c' w' hown2 hg2 hb2)
      go_roundw
      case rel => exact ⟨1, by omega, by go_num, ⟨A', c', rfl, by unfold Own; rw [be_take_len 2 n 1 (by decide), Het.out, List.map_append]; exact hown2⟩, Blk.below hblk hb2 (by omega), Below.trans hext (hb2.mono (by omega))⟩
      case measure => simp [intOf] <;> omega
    · have hx : IntKind.u8.wrap (n : Int) = ((UInt8.ofNat n).toNat : Int) := u8_div1 n
      have het : (be 2 n).take 2 = (be 2 n).take 1 ++ [UInt8.ofNat n] := by rw [be_take 2 n 1 (by decide)] <;> simp
      have Het := hid het
      clear het hown
      go_wp2_with (at_builtin; refine wpList_append_1 rfl (.tmp 22) (.tmp 32) 22 rfl (w.heap.size + 1) 5 i0 (.int .u8 0) 1 Try.underlying22 hi hz0 hz1 hz2 rfl ⟨0, rfl⟩ (fun _ h => h.one) rfl hown' (u8v (UInt8.ofNat n)) rfl ⟨_, rfl⟩ (by omega) (by unfold maxLen; omega) (by omega) ?_; intro A' c' w' hown2 hg2 hb2)
      go_roundw
      case rel => exact ⟨2, by omega, by go_num, ⟨A', c', rfl, by unfold Own; rw [be_take_len 2 n 2 (by decide), Het.out, List.map_append]; exact hown2⟩, Blk.below hblk hb2 (by omega), Below.trans hext (hb2.mono (by omega))⟩
      case measure => simp [intOf] <;> omega
    · go_wp2
      go_ret2
      rw [be_all] at hown
      exact ⟨A, c, rfl, Own.mono hown (by omega), hext⟩

set_option maxHeartbeats 1000000 in
/-- octet.put[[2]byte], where it has more, or is below 0. -/
theorem put2_no (n : Int) (w : World) (hn : n < 0 ∨ ¬ n.toNat < 256 ^ 2) :
    Calls Try.prog 34 #[.int .i64 n] w fun e w' => e = .returned (.tuple #[.slice none 0 0, .int .i64 5]) ∧ Ext w w' := by
  by_cases h0 : n < 0
  · clear hn
    go_enter Try.func34, Try.ntmps34
    go_wp2_with fail
    go_ret2
    exact ⟨rfl, by go_grown⟩
  · have hn' : 65536 ≤ n := by
      have := hn.resolve_left h0
      simp at this
      omega
    have hsh : (n / 65536 != 0) = true := by rw [bne_iff_ne]; omega
    clear hn
    go_enter Try.func34, Try.ntmps34
    go_wp2_with fail
    go_ret2
    exact ⟨rfl, by go_grown⟩

theorem put2_any (n : Int) (w : World) :
    Calls Try.prog 34 #[.int .i64 n] w fun e w' => ∃ A c, e = .returned (.tuple #[.slice A (putS 2 n).1.length c, .int .i64 (putS 2 n).2]) ∧ Own w' w.heap.size 5 A c (putS 2 n).1 ∧ Ext w w' := by
  rcases putS_cases 2 n with ⟨k, rfl, hk⟩ | h
  · rw [putS_yes 2 k hk]
    simp only [be_length]
    exact put2_yes k w hk
  · rw [putS_no 2 n h]
    refine (put2_no n w h).mono ?_
    rintro e w' ⟨rfl, hx⟩
    exact ⟨none, 0, rfl, Own.nil _ _ _, hx⟩
set_option maxHeartbeats 400000 in
theorem octet_Put16 (n : Int) (w : World) :
    Calls Try.prog 29 #[.int .i64 n] w fun e w' => ∃ A c, e = .returned (.tuple #[.slice A (putS 2 n).1.length c, .int .i64 (putS 2 n).2]) ∧ Own w' w.heap.size 5 A c (putS 2 n).1 ∧ Ext w w' := by
  have hp := hid (put2_any n w)
  generalize putS 2 n = r at *
  go_enter Try.func29, Try.ntmps29
  go_wp2_with (go_at_call 34; refine hp.out.mono ?_; rintro e w1 ⟨A, c, rfl, hown, hext⟩)
  go_ret2
  exact ⟨A, c, rfl, hown, hext⟩
end Go.Proofs.Ytfimfmghfjokjaa

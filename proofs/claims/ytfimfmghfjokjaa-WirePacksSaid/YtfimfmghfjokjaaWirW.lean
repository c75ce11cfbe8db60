/- WireReads: which name stands at any place of any bytes, and where it ends, is told as the document says, or just the fault. -/
import Derived.Test.YtfimfmghfjokjaaWirB
import Derived.Test.YtfimfmghfjokjaaKLent
namespace Go.Proofs.Ytfimfmghfjokjaa
open Go.BK Go.RowKit
set_option linter.unusedVariables false
theorem readS_ex : readS [1, 97, 0, 1, 98, 192, 0] 3 = ([1, 98, 1, 97, 0], 7, 0, 0) := by
  unfold readS
  rw [if_neg (by decide)]
  show rdS _ _ [] 3 3 (-1) = _
  rw [rdS_label (by decide) (by decide) (by decide) (by decide) (by decide)]
  show rdS _ _ [1, 98] 3 5 (-1) = _
  rw [rdS_go (n := 0) (by decide) (by decide) (by decide) (by decide) (by decide)]
  show rdS _ _ [1, 98] 0 0 7 = _
  rw [rdS_label (by decide) (by decide) (by decide) (by decide) (by decide)]
  show rdS _ _ [1, 98, 1, 97] 0 2 7 = _
  rw [rdS_zero (by decide) (by decide)]
  rfl
theorem read_lit (cs : List UInt8) (arr : Array Value) (n : Nat) (at_ : Int) {R : List UInt8 × Int × Int × Int} (ha : arr = (cs.map u8v).toArray) (hn : cs.length = n) (hR : readS cs at_ = R) (hl : cs.length ≤ 1000000) (hat : -9223372036854775808 ≤ at_ ∧ at_ ≤ 9223372036854775807) (W : World) (g : Nat) (hg : g = W.heap.size) :
    Calls Try.prog 11 #[.slice (some ⟨g, 0, none⟩) n n, .int .i64 at_] (W.alloc (.cells arr 5)) fun e w' => e = .returned (.tuple #[.string (str R.1), .int .i64 R.2.1, .agg #[.int .i64 R.2.2.1, .int .i64 R.2.2.2]]) ∧ Ext W w' := by
  have ho := Own.lit_at W g cs 5 arr hg ha (by unfold maxLen; omega)
  subst hn
  refine (read_any at_ ho.rd hl hat hR).mono ?_
  rintro e w' ⟨rfl, x⟩
  exact ⟨rfl, ext_trans (ext_alloc _ _) x⟩
set_option maxHeartbeats 1000000 in
set_option maxRecDepth 100000 in
theorem awake_yes (w : World) : Calls Try.prog 14 #[] w fun e w' => e = .returned (.bool true) ∧ Ext w w' := by
  have C := hid (read_lit [1, 97, 0, 1, 98, 192, 0] #[.int .u8 1, .int .u8 97, .int .u8 0, .int .u8 1, .int .u8 98, .int .u8 192, .int .u8 0] 7 3 rfl rfl readS_ex (by decide) (by decide))
  go_enter Try.func14, Try.ntmps14
  go_wp2_with fail
  refine (C.out _ _ (by simp)).mono ?_
  rintro e w1 ⟨rfl, x1⟩
  have hs : str [1, 98, 1, 97, 0] = ⟨#[1, 98, 1, 97, 0]⟩ := rfl
  go_wp2_with fail
  go_ret
  exact ⟨rfl, ext_trans x1 (ext_alloc _ _)⟩
set_option maxHeartbeats 4000000 in
set_option maxRecDepth 100000 in
theorem reads_walk {B : Option Addr} {cb : Nat} {l : List UInt8} (at_ : Int) (w : World) (h : Rd w B cb l) (ha : -9223372036854775808 ≤ at_ ∧ at_ ≤ 9223372036854775807) :
    Calls Try.prog 3 #[.slice B l.length cb, .int .i64 at_] w fun e w' => e = .returned (.bool true) ∧ Below w.heap.size w w' := by
  have hn := h.n_le
  by_cases h1 : 70000 < l.length
  · have q1 : decide ((70000 : Int) < (l.length : Int)) = true := by simp; omega
    clear h
    go_enter Try.func3, Try.ntmps3
    go_wp2_with fail
    go_ret
    exact ⟨rfl, Below.refl _ _⟩
  have q1 : decide ((70000 : Int) < (l.length : Int)) = false := by simp; omega
  obtain ⟨⟨S, n, f, x⟩, hR⟩ : ∃ R, readS l at_ = R := ⟨_, rfl⟩
  have CA := hid (fun W (A : Option Addr) (c : Nat) (hW : Rd W A c l) => read_any at_ hW (by omega) ha hR)
  have CB := hid (fun W (A : Option Addr) (c : Nat) (hW : Rd W A c l) => refread_any at_ hW (by omega) ha hR)
  have H := hid h
  simp only at CA CB
  clear h hR
  obtain ⟨s, hs⟩ : ∃ s, s = str S := ⟨_, rfl⟩
  rw [← hs] at CA CB
  clear hs
  go_enter Try.func3, Try.ntmps3
  go_wp2_with fail
  refine (lent_bytes H.out (by omega)).mono ?_
  rintro e w1 ⟨g, rfl, o1, x1⟩
  have O1 := hid o1
  have R1 := hid (lent_rd o1)
  clear o1
  go_wp2_with fail
  refine (CA.out _ _ _ R1.out).mono ?_
  rintro e w2 ⟨rfl, x2⟩
  have X2 := hid (ext_trans x1 x2)
  have X12 := hid x2
  clear x1 x2
  go_wp2_with fail
  have x3' := ext_alloc w2 (.cells #[.int .i64 f, .int .i64 x] 26)
  refine (CB.out _ _ _ (H.out.ext (ext_trans X2.out x3'))).mono ?_
  rintro e w3 ⟨rfl, x3⟩
  have K3 := (Blk.new w2 26 #[.int .i64 f, .int .i64 x]).ext x3
  obtain ⟨k0, k1, kf⟩ := (K3.alloc (.cells #[.int .i64 f, .int .i64 x] 26)).two
  have X3 := hid (ext_trans (ext_trans X2.out x3') x3)
  have X13 := hid (ext_trans (ext_trans X12.out x3') x3)
  clear x3' x3
  have X4 := hid (ext_trans X3.out (ext_alloc w3 (.cells #[.int .i64 f, .int .i64 x] 26)))
  have O4 := hid (O1.out.ext (ext_trans X13.out (ext_alloc w3 (.cells #[.int .i64 f, .int .i64 x] 26))))
  have nn1 : w2.heap.size ≠ w3.heap.size := Nat.ne_of_lt K3.lt
  go_wp2_with fail
  refine (kept_bytes O4.out (H.out.ext X4.out) (by omega)).mono ?_
  rintro e w5 ⟨rfl, x5⟩
  go_wp2_with fail
  refine (awake_yes _).mono ?_
  rintro e w6 ⟨rfl, x6⟩
  go_wp2_with fail
  go_ret
  refine ⟨ret_bool (by simp), ext_trans (ext_trans X4.out x5) x6⟩
end Go.Proofs.Ytfimfmghfjokjaa

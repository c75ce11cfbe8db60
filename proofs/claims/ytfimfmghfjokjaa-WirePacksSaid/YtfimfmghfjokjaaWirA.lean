/- Layer 5: wire.Read. -/
import Derived.Test.YtfimfmghfjokjaaWirS
import Derived.Laws.BitsAllLaws
import Derived.Lib.QuoteBits
import Derived.RegionTactic
import Derived.BigRegion
import Derived.ChangeAlike
import Derived.Outline
namespace Go.Proofs.Ytfimfmghfjokjaa
open Go.BK Go.RowKit
set_option linter.unusedVariables false
theorem two_set {w : World} {g : Nat} {t : TypeId} {a b : Value} (h : Blk w g t #[a, b]) (x y : Value) : ((w.setCell ⟨g, 0, none⟩ x).setCell ⟨g, 1, none⟩ y).cell? ⟨g, 0, none⟩ = some x ∧ ((w.setCell ⟨g, 0, none⟩ x).setCell ⟨g, 1, none⟩ y).cell? ⟨g, 1, none⟩ = some y :=
  ⟨((h.set_ 0 x).set_ 1 y).cell 0, ((h.set_ 0 x).set_ 1 y).cell 1⟩
theorem and_low (v n : Nat) (hv : v < 65536) (hn : v % 16384 = n) : bits .and .i64 (v : Int) 16383 = (n : Int) := by
  subst hn
  show IntKind.i64.wrap ((BitVec.ofInt 64 (v : Int) &&& BitVec.ofInt 64 ((16383 : Nat) : Int)).toNat : Int) = _
  rw [BitVec.toNat_and, ofInt_u64 v (by omega), ofInt_u64 16383 (by omega), show (16383 : Nat) = 2 ^ 14 - 1 from rfl, Nat.and_two_pow_sub_one_eq_mod]
  exact Lib.wrap_i64_small _ (by omega)
theorem num_two (l : List UInt8) (i : Nat) (h : i + 2 ≤ l.length) : num ((l.drop i).take 2) = 256 * (l.getD i 0).toNat + (l.getD (i + 1) 0).toNat := by
  have h1 : i < l.length := by omega
  have h2 : i + 1 < l.length := by omega
  rw [List.drop_eq_getElem_cons h1, List.take_succ_cons, List.drop_eq_getElem_cons h2, List.take_succ_cons]
  simp [num, h1, h2]
theorem own_snoc {w : World} {base c : Nat} {e : TypeId} {A : Option Addr} {O : List UInt8} {v : Int} {x : UInt8} (h : OwnG isU8 w base e 1 A (O.length + 1) c (O.map u8v ++ [.int .u8 v])) (hv : v = x.toNat) : Own w base e A c (O ++ [x]) := by
  subst hv
  unfold Own
  rw [List.map_append, List.length_append]
  exact h
theorem own_app {w : World} {base c m : Nat} {e : TypeId} {A : Option Addr} {O X : List UInt8} (hX : X.length = m) (h : OwnG isU8 w base e 1 A (O.length + m) c (O.map u8v ++ X.map u8v)) : Own w base e A c (O ++ X) := by
  subst hX
  unfold Own
  rw [List.map_append, List.length_append]
  exact h
/-- The world within Read. -/
def RdW (w wr : World) (A : Option Addr) (c : Nat) (O : List UInt8) : Prop :=
  Blk wr w.heap.size 26 #[.int .i64 0, .int .i64 0] ∧ Own wr (w.heap.size + 1) 5 A c O ∧ Below w.heap.size w wr
theorem RdW.ext {w wr w' : World} {A : Option Addr} {c : Nat} {O : List UInt8} (h : RdW w wr A c O) (x : Ext wr w') : RdW w w' A c O := ⟨h.1.ext x, h.2.1.ext x, Below.trans h.2.2 (x.mono h.2.2.size)⟩
theorem RdW.app {w wr w' : World} {A A' : Option Addr} {c c' : Nat} {O X : List UInt8} (h : RdW w wr A c O) (ho : Own w' (w.heap.size + 1) 5 A' c' (O ++ X)) (hg : wr.grownBy w' (blk A)) : RdW w w' A' c' (O ++ X) := by
  have hu : ∀ k, blk A = some k → w.heap.size + 1 ≤ k := fun k hk => (h.2.1.lt k hk).1
  exact ⟨h.1.grown hg (fun e => by have := hu _ e.symm; omega), ho, Below.grown h.2.2 hg h.2.2.size (fun k hk => by have := hu k hk; omega)⟩
set_option maxHeartbeats 8000000 in
set_option maxRecDepth 100000 in
theorem read_any {B : Option Addr} {cb : Nat} {l : List UInt8} {w : World} (at_ : Int) {R : List UInt8 × Int × Int × Int} (h : Rd w B cb l) (hl : l.length ≤ 1000000) (ha : -9223372036854775808 ≤ at_ ∧ at_ ≤ 9223372036854775807) (hR : readS l at_ = R) :
    Calls Try.prog 11 #[.slice B l.length cb, .int .i64 at_] w fun e w' => e = .returned (.tuple #[.string (str R.1), .int .i64 R.2.1, .agg #[.int .i64 R.2.2.1, .int .i64 R.2.2.2]]) ∧ Below w.heap.size w w' := by
  obtain ⟨i0, hi, hz0, hz1, hz2⟩ := info_parts info_u8
  have K0 := Blk.new w 26 #[.int .i64 0, .int .i64 0]
  have hx0 := ext_alloc w (.cells #[.int .i64 0, .int .i64 0] 26)
  by_cases h1 : at_ < 0 ∨ (l.length : Int) < at_
  · rw [readS, if_pos h1] at hR
    subst hR
    obtain ⟨q1, q2⟩ := two_set K0 (.int .i64 5) (.int .i64 0)
    have hx := (hx0.setCell (p := ⟨w.heap.size, 0, none⟩) (Nat.le_refl _) (.int .i64 5)).setCell (p := ⟨w.heap.size, 1, none⟩) (Nat.le_refl _) (.int .i64 0)
    clear K0 hx0 h
    rcases h1 with h1 | h1
    · go_enter Try.func11, Try.ntmps11
      go_wp2_with fail
      go_step3
      go_wp2_with fail
      rw [Exit.noGoto_ret]
      refine bodyPost_ret (by simp [results, Try.results11, go_sem, q1, q2]; rfl) rfl ?_
      exact ⟨rfl, ext_alloc _ _⟩
    · have h0 : ¬ at_ < 0 := by omega
      go_enter Try.func11, Try.ntmps11
      go_wp2_with fail
      go_step3
      go_wp2_with fail
      rw [Exit.noGoto_ret]
      refine bodyPost_ret (by simp [results, Try.results11, go_sem, q1, q2]; rfl) rfl ?_
      exact ⟨rfl, ext_alloc _ _⟩
  rw [readS, if_neg h1] at hR
  obtain ⟨a, rfl⟩ := Int.eq_ofNat_of_zero_le (show 0 ≤ at_ by omega)
  rw [Int.toNat_natCast] at hR
  have hal : a ≤ l.length := by omega
  have hal2 : decide ((l.length : Int) < (a : Int)) = false := by simp; omega
  have hal3 : decide ((a : Int) < 0) = false := by simp
  have hal4 : decide (l.length < a) = false := by simp; omega
  have H := hid h
  have HR0 := hid hR
  have K0 := hid K0
  have hx0 := hid hx0
  clear h hR h1
  go_enter Try.func11, Try.ntmps11
  go_wp2_with fail
  go_step3
  go_wp2_with fail
  go_step3
  go_wp2_with fail
  go_outline
  go_loopw [7, 8, 9, 10] (fun out pt i bh wr => ∃ (O : List UInt8) (A : Option Addr) (c part k : Nat) (b : Int), out = .slice A O.length c ∧ pt = .int .i64 part ∧ i = .int .i64 k ∧ bh = .int .i64 b ∧ RdW w wr A c O ∧ O.length ≤ 254 ∧ part ≤ l.length ∧ k ≤ l.length ∧ -1 ≤ b ∧ b ≤ 2000000 ∧ rdS l a O part k b = R) (fun _ pt i _ _ => (intOf pt).toNat * (l.length + 1) + (l.length - (intOf i).toNat))
  case atStart => exact ⟨[], none, 0, a, a, -1, rfl, rfl, rfl, rfl, ⟨K0.out, Own.nil _ _ _, hx0.out⟩, by simp, hal, hal, by decide, by decide, HR0.out⟩
  case round =>
    obtain ⟨O, A, c, part, k, b, rfl, rfl, rfl, rfl, hW, hO, hpl, hkl, hb1, hb2, hR⟩ := hrel
    clear HR0 K0 hx0
    have hwb := hW.2.2
    have hws := hwb.size
    have hgl := hW.1.lt
    have hF := hW.1
    obtain ⟨f0, f1, ff⟩ := hF.two
    have HF := hid hF
    have HW := hid hW
    have HWB := hid hwb
    clear hW hF hwb
    by_cases hlt : k < l.length
    · obtain ⟨bb, o, rfl, hbl, hcell⟩ := Rd.at_ (H.out.ext HWB.out) hlt
      have hrd : Rd wr (some ⟨bb, o, none⟩) cb l := H.out.ext HWB.out
      have HRD := hid hrd
      obtain ⟨x, hx⟩ : ∃ x, x = l.getD k 0 := ⟨_, rfl⟩
      rw [← hx] at hcell
      have hxl := x.toNat_lt
      have HX := hid hx
      have HRR := hid hR
      clear hx hR hrd
      rcases (show x.toNat = 0 ∨ (0 < x.toNat ∧ x.toNat ≤ 63) ∨ (63 < x.toNat ∧ x.toNat < 192) ∨ 192 ≤ x.toNat by omega) with h0 | ⟨h0, h63⟩ | ⟨h63, h192⟩ | h192
      · have hR := HRR.out
        rw [rdS_zero hlt (by rw [← HX.out]; exact h0)] at hR
        have ow := HW.out.2.1
        have hx0 : ((x.toNat : Int) == 0) = true := by simp; omega
        have hcell' : wr.cell? ⟨bb, o + k, none⟩ = some (.int .u8 0) := by rw [hcell]; simp [h0]
        have HO := hid ow
        clear hcell HX HRR hx0
        by_cases hb0 : b < 0
        all_goals
          first | rw [if_pos hb0] at hR | rw [if_neg hb0] at hR
          subst hR
          go_wp2_with (at_builtin; go_must (refine wpList_append_1 rfl (.tmp 101) (.tmp 102) 22 rfl (w.heap.size + 1) 5 i0 (.int .u8 0) 1 Try.underlying22 hi hz0 hz1 hz2 rfl ⟨0, rfl⟩ (fun _ h => h.one) rfl HO.out (.int .u8 0) (by rfl) ⟨0, rfl⟩ (by omega) (by unfold maxLen; omega) hgl ?_; intro A5 c5 w5 o5 g5 x5; have O5 := own_snoc (x := 0) o5 rfl; have W5 := HW.out.app O5 g5; have hcv := run_convert_rd (P := Try.prog) O5.rd 22 5 Try.underlying22 Try.underlying5 9 Try.underlying9; rw [show (O ++ [(0 : UInt8)]).length = O.length + 1 from by simp] at hcv; obtain ⟨g0, g1, gf⟩ := W5.1.two; have W5 := hid W5; clear o5 g5 x5 O5))
          obtain ⟨q1, q2⟩ := two_set W5.out.1 (.int .i64 0) (.int .i64 0)
          try rw [Exit.noGoto_ret]
          refine bodyPost_ret (by simp [results, Try.results11, go_sem, q1, q2]; rfl) rfl ?_
          exact ⟨rfl, (W5.out.2.2.setCell (p := ⟨w.heap.size, 0, none⟩) (Nat.le_refl _) _).setCell (p := ⟨w.heap.size, 1, none⟩) (Nat.le_refl _) _⟩
      · have hR := HRR.out
        have n1 : ¬ (x.toNat : Int) = 0 := by omega
        have CB := hid (fun W (hW : Rd W (some ⟨bb, o, none⟩) cb l) => bytes_any (w := W) (k : Int) ((x.toNat : Int) + 1) hW (by omega) (by omega) (by omega))
        by_cases hcut : l.length < k + 1 + x.toNat
        · rw [rdS_cut hlt (by rw [← HX.out]; omega) (by rw [← HX.out]; exact h63) (by rw [← HX.out]; omega)] at hR
          subst hR
          rw [show bytesS l (k : Int) ((x.toNat : Int) + 1) = ([], 0, 4, (l.length : Int)) from by unfold bytesS; rw [if_neg (by omega), if_neg (by omega), if_pos (by omega)]] at CB
          clear HRR HX
          go_wp2_with fail
          refine (CB.out _ HRD.out).mono ?_
          rintro e w1 ⟨A1, c1, rfl, o1, x1⟩
          have W1 := hid ((HW.out.ext x1).ext (ext_alloc w1 (.cells #[.int .i64 4, .int .i64 l.length] 26)))
          obtain ⟨g0, g1, gf⟩ := W1.out.1.two
          have KN := Blk.new w1 26 #[.int .i64 4, .int .i64 l.length]
          obtain ⟨m0, m1, mf⟩ := KN.two
          go_wp2_with fail
          go_region
          go_wp2_with fail
          obtain ⟨q1, q2⟩ := two_set W1.out.1 (.int .i64 4) (.int .i64 l.length)
          try rw [Exit.noGoto_ret]
          refine bodyPost_ret (by simp [results, Try.results11, go_sem, q1, q2]; rfl) rfl ?_
          exact ⟨rfl, ((W1.out.2.2.setCell (p := ⟨w.heap.size, 0, none⟩) (Nat.le_refl _) _).setCell (p := ⟨w.heap.size, 1, none⟩) (Nat.le_refl _) _).drew⟩
        · obtain ⟨X, hX⟩ : ∃ X, (l.drop k).take (1 + x.toNat) = X := ⟨_, rfl⟩
          have hXl : X.length = 1 + x.toNat := by rw [← hX, List.length_take, List.length_drop]; omega
          rw [show bytesS l (k : Int) ((x.toNat : Int) + 1) = (X, (k : Int) + ((x.toNat : Int) + 1), 0, 0) from by
            unfold bytesS
            rw [if_neg (by omega), if_neg (by omega), if_neg (by omega), ← hX]
            rw [show ((k : Int)).toNat = k from by simp, show ((x.toNat : Int) + 1).toNat = 1 + x.toNat from by omega]] at CB
          have CB := hid (fun W (hW : Rd W (some ⟨bb, o, none⟩) cb l) => CB.out W hW)
          simp only [hXl] at CB
          have HXX := hid hX
          have HXL := hid hXl
          have hmeas := hid (show part * (l.length + 1) + (l.length - (k + 1 + x.toNat)) < part * (l.length + 1) + (l.length - k) by omega)
          by_cases hlong : 254 < O.length + (1 + x.toNat)
          · rw [rdS_long hlt (by rw [← HX.out]; omega) (by rw [← HX.out]; exact h63) (by rw [← HX.out]; omega) (by rw [← HX.out]; exact hlong)] at hR
            subst hR
            clear HRR HX hX hXl
            go_wp2_with fail
            refine (CB.out _ HRD.out).mono ?_
            rintro e w1 ⟨A1, c1, rfl, o1, x1⟩
            have W1 := (HW.out.ext x1).ext (ext_alloc w1 (.cells #[.int .i64 0, .int .i64 0] 26))
            have ow := W1.2.1
            have hrx : RdG (w1.alloc (.cells #[.int .i64 0, .int .i64 0] 26)) 1 A1 (1 + x.toNat) c1 (X.map u8v) := by have := (o1.rd.ext (ext_alloc w1 (.cells #[.int .i64 0, .int .i64 0] 26))); unfold Rd at this; rwa [HXL.out] at this
            have hsz1 := Nat.le_trans hgl (Nat.le_trans x1.size (Nat.le_succ _))
            have W1 := hid W1
            have hsz2 : w.heap.size + 1 ≤ (w1.alloc (.cells #[.int .i64 0, .int .i64 0] 26)).heap.size := by simp; omega
            go_wp2_with (at_builtin; go_must (refine wpList_append_g rfl (.tmp 54) (.tmp 55) 22 rfl (w.heap.size + 1) 5 i0 (.int .u8 0) 1 1 Try.underlying22 hi hz0 hz1 hz2 rfl (by decide) (by simp [Value.cells]; exact ⟨0, rfl⟩) (fun _ h => h.one) rfl ow rfl hrx (isU8_map X) (by omega) (by unfold maxLen; omega) hsz2 ?_; intro A5 c5 w5 o5 g5 n5; have O5 := own_app HXL.out o5; have W5 := W1.out.app O5 g5; obtain ⟨g0, g1, gf⟩ := W5.1.two; have W5 := hid W5; clear o5 g5 n5 O5))
            obtain ⟨q1, q2⟩ := two_set W5.out.1 (.int .i64 3) (.int .i64 a)
            try rw [Exit.noGoto_ret]
            refine bodyPost_ret (by simp [results, Try.results11, go_sem, q1, q2]; rfl) rfl ?_
            exact ⟨rfl, (W5.out.2.2.setCell (p := ⟨w.heap.size, 0, none⟩) (Nat.le_refl _) _).setCell (p := ⟨w.heap.size, 1, none⟩) (Nat.le_refl _) _⟩
          · rw [rdS_label hlt (by rw [← HX.out]; omega) (by rw [← HX.out]; exact h63) (by rw [← HX.out]; omega) (by rw [← HX.out]; omega), ← HX.out, hX] at hR
            have HR2 := hid hR
            clear HRR HX hX hXl hR
            go_wp2_with fail
            refine (CB.out _ HRD.out).mono ?_
            rintro e w1 ⟨A1, c1, rfl, o1, x1⟩
            have W1 := (HW.out.ext x1).ext (ext_alloc w1 (.cells #[.int .i64 0, .int .i64 0] 26))
            have ow := W1.2.1
            have hrx : RdG (w1.alloc (.cells #[.int .i64 0, .int .i64 0] 26)) 1 A1 (1 + x.toNat) c1 (X.map u8v) := by have := (o1.rd.ext (ext_alloc w1 (.cells #[.int .i64 0, .int .i64 0] 26))); unfold Rd at this; rwa [HXL.out] at this
            have W1 := hid W1
            have hsz1 := Nat.le_trans hgl (Nat.le_trans x1.size (Nat.le_succ _))
            have hsz2 : w.heap.size + 1 ≤ (w1.alloc (.cells #[.int .i64 0, .int .i64 0] 26)).heap.size := by simp; omega
            go_wp2_with (at_builtin; go_must (refine wpList_append_g rfl (.tmp 54) (.tmp 55) 22 rfl (w.heap.size + 1) 5 i0 (.int .u8 0) 1 1 Try.underlying22 hi hz0 hz1 hz2 rfl (by decide) (by simp [Value.cells]; exact ⟨0, rfl⟩) (fun _ h => h.one) rfl ow rfl hrx (isU8_map X) (by omega) (by unfold maxLen; omega) hsz2 ?_; intro A5 c5 w5 o5 g5 n5; have O5 := own_app HXL.out o5; have W5 := W1.out.app O5 g5; have W5 := hid W5; clear o5 g5 n5 O5))
            go_roundw
            case rel =>
              exact ⟨O ++ X, A5, c5, part, k + 1 + x.toNat, b, by rw [List.length_append, HXL.out], rfl, by go_num, rfl, W5.out, by rw [List.length_append, HXL.out]; omega, hpl, by omega, hb1, hb2, HR2.out⟩
            case measure => simp [intOf]; omega
      · have hR := HRR.out
        rw [rdS_odd hlt (by rw [← HX.out]; exact h192) (by rw [← HX.out]; exact h63)] at hR
        subst hR
        obtain ⟨q1, q2⟩ := two_set HF.out (.int .i64 4) (.int .i64 k)
        clear HRR HX
        have n1 : ¬ (x.toNat : Int) = 0 := by omega
        go_wp2_with fail
        all_goals
          rw [Exit.noGoto_ret]
          refine bodyPost_ret (by simp [results, Try.results11, go_sem, q1, q2]; rfl) rfl ?_
          exact ⟨rfl, (HWB.out.setCell (p := ⟨w.heap.size, 0, none⟩) (Nat.le_refl _) _).setCell (p := ⟨w.heap.size, 1, none⟩) (Nat.le_refl _) _⟩
      · have hR := HRR.out
        have n1 : ¬ (x.toNat : Int) = 0 := by omega
        by_cases hsh : l.length < k + 2
        · rw [rdS_short hlt (by rw [← HX.out]; exact h192) hsh] at hR
          subst hR
          have CG := hid (fun W (hW : Rd W (some ⟨bb, o, none⟩) cb l) => get16_any (w := W) (k : Int) (v := 0) (n := 0) (f := 4) (x := l.length) hW (by omega) (by omega) (by unfold getS; rw [if_neg (by omega), if_neg (by simp; omega)]))
          clear HRR HX
          go_wp2_with fail
          refine (CG.out _ HRD.out).mono ?_
          rintro e w1 ⟨rfl, x1⟩
          have W1 := hid ((HW.out.ext x1).ext (ext_alloc w1 (.cells #[.int .i64 4, .int .i64 l.length] 26)))
          obtain ⟨g0, g1, gf⟩ := W1.out.1.two
          have KN := Blk.new w1 26 #[.int .i64 4, .int .i64 l.length]
          obtain ⟨m0, m1, mf⟩ := KN.two
          go_wp2_with fail
          go_region
          go_wp2_with fail
          obtain ⟨q1, q2⟩ := two_set W1.out.1 (.int .i64 4) (.int .i64 l.length)
          try rw [Exit.noGoto_ret]
          refine bodyPost_ret (by simp [results, Try.results11, go_sem, q1, q2]; rfl) rfl ?_
          exact ⟨rfl, ((W1.out.2.2.setCell (p := ⟨w.heap.size, 0, none⟩) (Nat.le_refl _) _).setCell (p := ⟨w.heap.size, 1, none⟩) (Nat.le_refl _) _).drew⟩
        · obtain ⟨y, hy⟩ : ∃ y, y = l.getD (k + 1) 0 := ⟨_, rfl⟩
          have hyl := y.toNat_lt
          obtain ⟨v, hv⟩ : ∃ v, v = 256 * x.toNat + y.toNat := ⟨_, rfl⟩
          obtain ⟨n, hn⟩ : ∃ n, (x.toNat - 192) * 256 + y.toNat = n := ⟨_, rfl⟩
          have hvn : v % 16384 = n := by omega
          have hvl : v < 65536 := by omega
          have hnl : n < 16384 := by omega
          have hband := and_low v n hvl hvn
          have CG := hid (fun W (hW : Rd W (some ⟨bb, o, none⟩) cb l) => get16_any (w := W) (k : Int) (v := v) (n := (k : Int) + 2) (f := 0) (x := 0) hW (by omega) (by omega) (by unfold getS; rw [if_neg (by omega), if_pos (by simp; omega), show ((k : Int)).toNat = k from by simp, num_two l k (by omega), ← HX.out, ← hy, ← hv]; rfl))
          have hn' : ((l.getD k 0).toNat - 192) * 256 + (l.getD (k + 1) 0).toNat = n := by rw [← HX.out, ← hy]; exact hn
          by_cases hp : part ≤ n
          · rw [rdS_loop hlt (by rw [← HX.out]; exact h192) (by omega) hn' hp] at hR
            subst hR
            clear HRR HX hy hv hn hvn hn'
            go_wp2_with fail
            refine (CG.out _ HRD.out).mono ?_
            rintro e w1 ⟨rfl, x1⟩
            have W1 := hid ((HW.out.ext x1).ext (ext_alloc w1 (.cells #[.int .i64 0, .int .i64 0] 26)))
            obtain ⟨g0, g1, gf⟩ := W1.out.1.two
            go_wp2_with fail
            obtain ⟨q1, q2⟩ := two_set W1.out.1 (.int .i64 150) (.int .i64 k)
            try rw [Exit.noGoto_ret]
            refine bodyPost_ret (by simp [results, Try.results11, go_sem, q1, q2]; rfl) rfl ?_
            exact ⟨rfl, (W1.out.2.2.setCell (p := ⟨w.heap.size, 0, none⟩) (Nat.le_refl _) _).setCell (p := ⟨w.heap.size, 1, none⟩) (Nat.le_refl _) _⟩
          · rw [rdS_go hlt (by rw [← HX.out]; exact h192) (by omega) hn' (by omega)] at hR
            have hmeas := hid (show n * (l.length + 1) + (l.length - n) < part * (l.length + 1) + (l.length - k) by
              have : (n + 1) * (l.length + 1) ≤ part * (l.length + 1) := Nat.mul_le_mul_right _ (by omega)
              rw [Nat.add_mul] at this
              omega)
            have hnp : n < part := by omega
            clear HRR HX hy hv hn hvn hn' hp
            by_cases hb0 : b < 0
            · rw [if_pos hb0] at hR
              have HR2 := hid hR
              clear hR
              go_wp2_with fail
              refine (CG.out _ HRD.out).mono ?_
              rintro e w1 ⟨rfl, x1⟩
              have W1 := hid ((HW.out.ext x1).ext (ext_alloc w1 (.cells #[.int .i64 0, .int .i64 0] 26)))
              go_wp2_with fail
              go_roundw
              case rel => exact ⟨O, A, c, n, n, (k : Int) + 2, rfl, rfl, rfl, rfl, W1.out, hO, by omega, by omega, by omega, by omega, HR2.out⟩
              case measure => simpa [intOf] using hmeas.out
            · rw [if_neg hb0] at hR
              have HR2 := hid hR
              clear hR
              go_wp2_with fail
              refine (CG.out _ HRD.out).mono ?_
              rintro e w1 ⟨rfl, x1⟩
              have W1 := hid ((HW.out.ext x1).ext (ext_alloc w1 (.cells #[.int .i64 0, .int .i64 0] 26)))
              go_wp2_with fail
              go_roundw
              case rel => exact ⟨O, A, c, n, n, b, rfl, rfl, rfl, rfl, W1.out, hO, by omega, by omega, by omega, by omega, HR2.out⟩
              case measure => simpa [intOf] using hmeas.out
    · obtain rfl : k = l.length := by omega
      rw [rdS_end (Nat.le_refl _)] at hR
      subst hR
      obtain ⟨q1, q2⟩ := two_set HF.out (.int .i64 4) (.int .i64 l.length)
      go_wp2_with fail
      rw [Exit.noGoto_ret]
      refine bodyPost_ret (by simp [results, Try.results11, go_sem, q1, q2]; rfl) rfl ?_
      exact ⟨rfl, (HWB.out.setCell (p := ⟨w.heap.size, 0, none⟩) (Nat.le_refl _) _).setCell (p := ⟨w.heap.size, 1, none⟩) (Nat.le_refl _) _⟩
end Go.Proofs.Ytfimfmghfjokjaa

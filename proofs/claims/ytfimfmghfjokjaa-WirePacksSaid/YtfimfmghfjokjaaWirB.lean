/- Layer 5: the document's Read. -/
import Derived.Test.YtfimfmghfjokjaaWirA
namespace Go.Proofs.Ytfimfmghfjokjaa
open Go.BK Go.RowKit
set_option linter.unusedVariables false
set_option maxHeartbeats 8000000 in
set_option maxRecDepth 100000 in
theorem refread_any {B : Option Addr} {cb : Nat} {l : List UInt8} {w : World} (at_ : Int) {R : List UInt8 × Int × Int × Int} (h : Rd w B cb l) (hl : l.length ≤ 1000000) (ha : -9223372036854775808 ≤ at_ ∧ at_ ≤ 9223372036854775807) (hR : readS l at_ = R) :
    Calls Try.prog 12 #[.slice B l.length cb, .int .i64 at_] w fun e w' => e = .returned (.tuple #[.string (str R.1), .int .i64 R.2.1, .agg #[.int .i64 R.2.2.1, .int .i64 R.2.2.2]]) ∧ Below w.heap.size w w' := by
  have K0 := Blk.new w 26 #[.int .i64 0, .int .i64 0]
  by_cases h1 : at_ < 0 ∨ (l.length : Int) < at_
  · rw [readS, if_pos h1] at hR
    subst hR
    clear K0 h
    rcases h1 with h1 | h1
    · go_enter Try.func12, Try.ntmps12
      go_wp2_with fail
      refine bodyPost_ret (by simp [results, Try.results12, go_sem]; rfl) rfl ?_
      exact ⟨rfl, ext_alloc _ _⟩
    · have h0 : ¬ at_ < 0 := by omega
      go_enter Try.func12, Try.ntmps12
      go_wp2_with fail
      refine bodyPost_ret (by simp [results, Try.results12, go_sem]; rfl) rfl ?_
      exact ⟨rfl, ext_alloc _ _⟩
  rw [readS, if_neg h1] at hR
  obtain ⟨a, rfl⟩ := Int.eq_ofNat_of_zero_le (show 0 ≤ at_ by omega)
  rw [Int.toNat_natCast] at hR
  have hal : a ≤ l.length := by omega
  have hal2 : decide ((l.length : Int) < (a : Int)) = false := by simp; omega
  have hal3 : decide ((a : Int) < 0) = false := by simp
  have hal4 : decide (l.length < a) = false := by simp; omega
  have K1 : Blk ((w.alloc (.cells #[.int .i64 0, .int .i64 0] 26)).alloc (.cells #[.int .i64 4, .int .i64 l.length] 26)) (w.heap.size + 1) 26 #[.int .i64 4, .int .i64 l.length] := by
    have := Blk.new (w.alloc (.cells #[.int .i64 0, .int .i64 0] 26)) 26 #[.int .i64 4, .int .i64 l.length]
    simpa using this
  have K0 := K0.alloc (.cells #[.int .i64 4, .int .i64 l.length] 26)
  have hx : Ext w ((w.alloc (.cells #[.int .i64 0, .int .i64 0] 26)).alloc (.cells #[.int .i64 4, .int .i64 l.length] 26)) := ext_trans (ext_alloc _ _) (ext_alloc _ _)
  have hrd : Rd ((w.alloc (.cells #[.int .i64 0, .int .i64 0] 26)).alloc (.cells #[.int .i64 4, .int .i64 l.length] 26)) B cb l := h.ext hx
  have HR0 := hid hR
  have K0 := hid K0
  have K1 := hid K1
  have HX := hid hx
  have HRD := hid hrd
  have hcm := hrd.c_le
  have hlc := hrd.le
  clear h hR h1 hx hrd
  go_enter Try.func12, Try.ntmps12
  go_wp2_with fail
  generalize (w.alloc (.cells #[.int .i64 0, .int .i64 0] 26)).alloc (.cells #[.int .i64 4, .int .i64 l.length] 26) = W at K0 K1 HX HRD ⊢
  obtain ⟨f0, f1, ff⟩ := K0.out.two
  obtain ⟨g0, g1, gf⟩ := K1.out.two
  go_loop [8, 9, 10, 11] (fun n bh pt i => ∃ (O : List UInt8) (part k : Nat) (b : Int), n = .string (str O) ∧ pt = .int .i64 part ∧ i = .int .i64 k ∧ bh = .int .i64 b ∧ O.length ≤ 254 ∧ part ≤ l.length ∧ k ≤ l.length ∧ -1 ≤ b ∧ b ≤ 2000000 ∧ rdS l a O part k b = R) (fun _ _ pt i => (intOf pt).toNat * (l.length + 1) + (l.length - (intOf i).toNat))
  case atStart => exact ⟨[], a, a, -1, rfl, rfl, rfl, rfl, by simp, hal, hal, by decide, by decide, HR0.out⟩
  case round =>
    obtain ⟨O, part, k, b, rfl, rfl, rfl, rfl, hO, hpl, hkl, hb1, hb2, hR⟩ := hrel
    clear HR0
    by_cases hlt : k < l.length
    · obtain ⟨bb, o, rfl, hbl, hall⟩ := Rd.spot HRD.out (by omega)
      have hcell := hall k hlt
      obtain ⟨x, hx⟩ : ∃ x, x = l.getD k 0 := ⟨_, rfl⟩
      rw [← hx] at hcell
      have hxl := x.toNat_lt
      have HXX := hid hx
      have HRR := hid hR
      have HALL := hid hall
      clear hx hR hall
      rcases (show x.toNat = 0 ∨ (0 < x.toNat ∧ x.toNat ≤ 63) ∨ (63 < x.toNat ∧ x.toNat < 192) ∨ 192 ≤ x.toNat by omega) with h0 | ⟨h0, h63⟩ | ⟨h63, h192⟩ | h192
      · have hR := HRR.out
        rw [rdS_zero hlt (by rw [← HXX.out]; exact h0)] at hR
        have hsz : (str O).size ≤ 254 := by rw [str_size]; exact hO
        have hcell' : W.cell? ⟨bb, o + k, none⟩ = some (.int .u8 0) := by rw [hcell]; simp [h0]
        have hap : str O ++ ⟨#[0]⟩ = str (O ++ [0]) := str_append O [0]
        clear hcell HXX HRR
        by_cases hb0 : b < 0
        all_goals
          first | rw [if_pos hb0] at hR | rw [if_neg hb0] at hR
          subst hR
          go_wp2_with fail
          obtain ⟨q1, q2⟩ := two_set K0.out (.int .i64 0) (.int .i64 0)
          refine bodyPost_ret (by simp [results, Try.results12, go_sem, q1, q2]; rfl) rfl ?_
          exact ⟨rfl, (HX.out.setCell (p := ⟨w.heap.size, 0, none⟩) (Nat.le_refl _) _).setCell (p := ⟨w.heap.size, 1, none⟩) (Nat.le_refl _) _⟩
      · have hR := HRR.out
        have n1 : ¬ (x.toNat : Int) = 0 := by omega
        by_cases hcut : l.length < k + 1 + x.toNat
        · rw [rdS_cut hlt (by rw [← HXX.out]; omega) (by rw [← HXX.out]; exact h63) (by rw [← HXX.out]; omega)] at hR
          subst hR
          clear HRR HXX
          go_wp2_with fail
          go_region
          go_wp2_with fail
          obtain ⟨q1, q2⟩ := two_set K0.out (.int .i64 4) (.int .i64 l.length)
          refine bodyPost_ret (by simp [results, Try.results12, go_sem, q1, q2]; rfl) rfl ?_
          exact ⟨rfl, ((HX.out.setCell (p := ⟨w.heap.size, 0, none⟩) (Nat.le_refl _) _).setCell (p := ⟨w.heap.size, 1, none⟩) (Nat.le_refl _) _).drew⟩
        · obtain ⟨X, hX⟩ : ∃ X, (l.drop k).take (1 + x.toNat) = X := ⟨_, rfl⟩
          have hXl : X.length = 1 + x.toNat := by rw [← hX, List.length_take, List.length_drop]; omega
          have hcv : (convert 22 9 (.slice (some ⟨bb, o + k, none⟩) (k + 1 + x.toNat - k) (cb - k))).run Try.prog W = .ok (.string (str X)) W := by
            have hc := Rd.cut HRD.out (i := k) (j := k + 1 + x.toNat) (by omega) (by omega) (A' := some ⟨bb, o + k, none⟩) (fun _ => by simp [Addr.add_lit])
            rw [List.drop_take, show k + 1 + x.toNat - k = 1 + x.toNat from by omega, hX] at hc
            have := run_convert_rd (P := Try.prog) hc 22 5 Try.underlying22 Try.underlying5 9 Try.underlying9
            rw [hXl] at this
            rw [show k + 1 + x.toNat - k = 1 + x.toNat from by omega]
            exact this
          have hap : str O ++ str X = str (O ++ X) := str_append O X
          have hs1 : (str O).size ≤ 254 := by rw [str_size]; exact hO
          have hs2 : (str X).size ≤ 64 := by rw [str_size, hXl]; omega
          have hs3 : ((str (O ++ X)).size : Int) = (O.length : Int) + (1 + x.toNat) := by rw [str_size, List.length_append, hXl]; omega
          have HXL := hid hXl
          by_cases hlong : 254 < O.length + (1 + x.toNat)
          · rw [rdS_long hlt (by rw [← HXX.out]; omega) (by rw [← HXX.out]; exact h63) (by rw [← HXX.out]; omega) (by rw [← HXX.out]; exact hlong)] at hR
            subst hR
            clear HRR HXX hX hXl
            go_wp2_with fail
            obtain ⟨q1, q2⟩ := two_set K0.out (.int .i64 3) (.int .i64 a)
            refine bodyPost_ret (by simp [results, Try.results12, go_sem, q1, q2]; rfl) rfl ?_
            exact ⟨rfl, (HX.out.setCell (p := ⟨w.heap.size, 0, none⟩) (Nat.le_refl _) _).setCell (p := ⟨w.heap.size, 1, none⟩) (Nat.le_refl _) _⟩
          · rw [rdS_label hlt (by rw [← HXX.out]; omega) (by rw [← HXX.out]; exact h63) (by rw [← HXX.out]; omega) (by rw [← HXX.out]; omega), ← HXX.out, hX] at hR
            have HR2 := hid hR
            clear HRR HXX hX hXl hR
            go_wp2_with fail
            go_round
            case rel => exact ⟨O ++ X, part, k + 1 + x.toNat, b, rfl, rfl, by go_num, rfl, by rw [List.length_append, HXL.out]; omega, hpl, by omega, hb1, hb2, HR2.out⟩
            case measure => simp [intOf]; omega
      · have hR := HRR.out
        rw [rdS_odd hlt (by rw [← HXX.out]; exact h192) (by rw [← HXX.out]; exact h63)] at hR
        subst hR
        clear HRR HXX
        have n1 : ¬ (x.toNat : Int) = 0 := by omega
        go_wp2_with fail
        obtain ⟨q1, q2⟩ := two_set K0.out (.int .i64 4) (.int .i64 k)
        refine bodyPost_ret (by simp [results, Try.results12, go_sem, q1, q2]; rfl) rfl ?_
        exact ⟨rfl, (HX.out.setCell (p := ⟨w.heap.size, 0, none⟩) (Nat.le_refl _) _).setCell (p := ⟨w.heap.size, 1, none⟩) (Nat.le_refl _) _⟩
      · have hR := HRR.out
        have n1 : ¬ (x.toNat : Int) = 0 := by omega
        by_cases hsh : l.length < k + 2
        · rw [rdS_short hlt (by rw [← HXX.out]; exact h192) hsh] at hR
          subst hR
          clear HRR HXX
          go_wp2_with fail
          go_region
          go_wp2_with fail
          obtain ⟨q1, q2⟩ := two_set K0.out (.int .i64 4) (.int .i64 l.length)
          refine bodyPost_ret (by simp [results, Try.results12, go_sem, q1, q2]; rfl) rfl ?_
          exact ⟨rfl, ((HX.out.setCell (p := ⟨w.heap.size, 0, none⟩) (Nat.le_refl _) _).setCell (p := ⟨w.heap.size, 1, none⟩) (Nat.le_refl _) _).drew⟩
        · obtain ⟨y, hy⟩ : ∃ y, y = l.getD (k + 1) 0 := ⟨_, rfl⟩
          have hyl := y.toNat_lt
          have hcell2 := HALL.out (k + 1) (by omega)
          rw [← hy] at hcell2
          obtain ⟨n, hn⟩ : ∃ n, (x.toNat - 192) * 256 + y.toNat = n := ⟨_, rfl⟩
          have hnl : n < 16384 := by omega
          have hni : 256 * ((x.toNat : Int) - 192) + (y.toNat : Int) = (n : Int) := by omega
          have hn' : ((l.getD k 0).toNat - 192) * 256 + (l.getD (k + 1) 0).toNat = n := by rw [← HXX.out, ← hy]; exact hn
          have hk1 : k + 1 < l.length := by omega
          by_cases hp : part ≤ n
          · rw [rdS_loop hlt (by rw [← HXX.out]; exact h192) (by omega) hn' hp] at hR
            subst hR
            clear HRR HXX hy hn hn'
            go_wp2_with fail
            obtain ⟨q1, q2⟩ := two_set K0.out (.int .i64 150) (.int .i64 k)
            refine bodyPost_ret (by simp [results, Try.results12, go_sem, q1, q2]; rfl) rfl ?_
            exact ⟨rfl, (HX.out.setCell (p := ⟨w.heap.size, 0, none⟩) (Nat.le_refl _) _).setCell (p := ⟨w.heap.size, 1, none⟩) (Nat.le_refl _) _⟩
          · rw [rdS_go hlt (by rw [← HXX.out]; exact h192) (by omega) hn' (by omega)] at hR
            have hmeas := hid (show n * (l.length + 1) + (l.length - n) < part * (l.length + 1) + (l.length - k) by
              have : (n + 1) * (l.length + 1) ≤ part * (l.length + 1) := Nat.mul_le_mul_right _ (by omega)
              rw [Nat.add_mul] at this
              omega)
            have hnp : n < part := by omega
            clear HRR HXX hy hn hn' hp
            by_cases hb0 : b < 0
            · rw [if_pos hb0] at hR
              have HR2 := hid hR
              clear hR
              go_wp2_with fail
              go_round
              case rel => exact ⟨O, n, n, (k : Int) + 2, rfl, rfl, rfl, rfl, hO, by omega, by omega, by omega, by omega, HR2.out⟩
              case measure => simpa [intOf] using hmeas.out
            · rw [if_neg hb0] at hR
              have HR2 := hid hR
              clear hR
              go_wp2_with fail
              go_round
              case rel => exact ⟨O, n, n, b, rfl, rfl, rfl, rfl, hO, by omega, by omega, by omega, by omega, HR2.out⟩
              case measure => simpa [intOf] using hmeas.out
    · obtain rfl : k = l.length := by omega
      rw [rdS_end (Nat.le_refl _)] at hR
      subst hR
      go_wp2_with fail
      go_region
      go_wp2_with fail
      obtain ⟨q1, q2⟩ := two_set K0.out (.int .i64 4) (.int .i64 l.length)
      refine bodyPost_ret (by simp [results, Try.results12, go_sem, q1, q2]; rfl) rfl ?_
      exact ⟨rfl, ((HX.out.setCell (p := ⟨w.heap.size, 0, none⟩) (Nat.le_refl _) _).setCell (p := ⟨w.heap.size, 1, none⟩) (Nat.le_refl _) _).drew⟩
end Go.Proofs.Ytfimfmghfjokjaa

/- Layer 19: Apart, the walk. -/
import Derived.Test.YtnoepnbgnlolbaaRrlQ
import Derived.IntWalk
namespace Go.Proofs.Ytnoepnbgnlolbaa
open Go.BK Go.RowKit Go.Maps
set_option linter.unusedVariables false

theorem below_ext {b : Nat} {w w1 w2 : World} (B : Below b w w1) (hb : b ≤ w1.heap.size) (e : Ext w1 w2) : Below b w w2 := B.trans (e.mono hb)
theorem pass2 {G : Prop} {P : Int → World → Prop} (H : Int → World → Prop) (key : ∀ a b, H a b → P a b) (main : (∀ a b, H a b → P a b) → G) : G := main key
theorem RActR.all {w : World} {A : Option Addr} {n c : Nat} {C : Nat → Int} {Nm : Nat → ByteArray} {T : Nat → Int} (h : RActR w A n c C Nm T) (h0 : 0 < n) :
    ∃ b o, A = some ⟨b, o, none⟩ ∧ b < w.heap.size ∧ ∀ i, i < n → (-9223372036854775808 ≤ C i ∧ C i ≤ 9223372036854775807) ∧ (Nm i).size ≤ maxLen ∧ (-9223372036854775808 ≤ T i ∧ T i ≤ 9223372036854775807) ∧
      ∀ W', Below w.heap.size w W' → W'.cell? ⟨b, o + i * 3, none⟩ = some (.int .i64 (C i)) ∧ W'.cell? ⟨b, o + i * 3 + 1, none⟩ = some (.string (Nm i)) ∧ W'.cell? ⟨b, o + i * 3 + 2, none⟩ = some (.int .i64 (T i)) := by
  obtain ⟨b, o, rfl, h2, _⟩ := h.2.2 0 h0
  refine ⟨b, o, rfl, h2, fun i hi => ?_⟩
  obtain ⟨b', o', e, g2, g3, g4, g5, g6, g7, g8⟩ := h.2.2 i hi
  cases e
  exact ⟨g6, g7, g8, fun W' e => ⟨by rw [e.cell g2]; exact g3, by rw [e.cell g2]; exact g4, by rw [e.cell g2]; exact g5⟩⟩

theorem apart_same {nx ny : Int} (limit window slip t : Int) (n : ByteArray) (s : Option (Int × Int)) (h1 : 0 ≤ ny) (h2 : ny ≤ nx) (h3 : nx ≤ max 0 t) :
    cdX ⟨200, limit, window, slip⟩ nx t n s = cdX ⟨1, limit, window, slip⟩ ny t n s ∧ stX ⟨200, limit, window, slip⟩ nx t n s = stX ⟨1, limit, window, slip⟩ ny t n s ∧ 0 ≤ nowX ny t n ∧ nowX ny t n ≤ nowX nx t n ∧ nowX nx t n ≤ max 0 t := by
  unfold cdX stX nowX
  by_cases h : okQ n t
  · have h4 := h.2.1
    rw [if_pos h, if_pos h, if_pos h, if_pos h, if_pos h, if_pos h]
    have e1 : max nx t = t := by omega
    have e2 : max ny t = t := by omega
    rw [e1, e2]
    refine ⟨?_, ?_, by omega, by omega, by omega⟩ <;> cases s <;> rfl
  · rw [if_neg h, if_neg h, if_neg h, if_neg h, if_neg h, if_neg h]
    exact ⟨rfl, rfl, h1, h2, h3⟩

set_option maxRecDepth 100000 in
set_option maxHeartbeats 4000000 in
theorem apart_in (limit window slip : Int) {A : Option Addr} {n c : Nat} {C : Nat → Int} {Nm : Nat → ByteArray} {T : Nat → Int} (w : World) (hA : RActR w A n c C Nm T) (hp : Par.ok ⟨200, limit, window, slip⟩) (hn : n ≤ 150) (h0 : 0 < n) :
    Calls Try.prog 6 #[.int .i64 limit, .int .i64 window, .int .i64 slip, .slice A n c] w fun e w' => e = .returned (.bool true) ∧ Below w.heap.size w w' := by
  have hc9 : c ≤ 9223372036854775807 := by have := hA.2.1; unfold maxLen at *; omega
  obtain ⟨bl, o, rfl, hbl, hall⟩ := hA.all h0
  have HA := hid hA
  have HC := hid hall
  have hp1 : Par.ok ⟨1, limit, window, slip⟩ := by unfold Par.ok at hp ⊢; simp only at hp ⊢; omega
  have hc0 := (hall 0 h0).1
  have hz0 := (hall 0 h0).2.1
  clear hA hall
  go_enter Try.func6, Try.ntmps6
  go_wp2_with fail
  refine (awake_yes _).mono ?_; rintro e w1 ⟨rfl, B1⟩
  have HB1 := hid B1
  have HL := hid (long_any (HA.out.below B1))
  clear B1
  go_wp2_with fail
  refine HL.out.mono ?_; rintro e wx ⟨b, rfl, hx⟩
  subst hx
  clear HL
  cases b
  case true =>
    go_wp2_with fail
    go_ret
    exact ⟨rfl, HB1.out⟩
  have hd : decide ((150 : Int) < (n : Int)) = false := by rw [decide_eq_false_iff_not]; omega
  go_wp2_with fail
  refine (all_new 200 limit window slip _ (C 0) (Nm 0) hp).mono ?_; rintro e w2 ⟨g, rfl, a2, x2⟩
  have A2 := hid a2
  have X2 := hid x2
  clear a2 x2
  go_wp2_with fail
  refine (one_new 1 limit window slip _ (C 0) (Nm 0) hp1).mono ?_; rintro e w3 ⟨h, rfl, a3, x3⟩
  have D3 : Two w.heap.size w3 g h ⟨200, limit, window, slip⟩ ⟨1, limit, window, slip⟩ 0 0 (C 0) (Nm 0) none none 0 := by
    have e1 := HB1.out.size
    have e2 := X2.out.size
    have e3 := x3.size
    exact ⟨_, _, A2.out.ext x3, a3, fun j hj => ⟨Nat.le_trans e1 hj.1, Nat.lt_of_lt_of_le hj.2 e3, fun hv => by have := hj.2; have := hv.1; omega⟩, fun j hj => ⟨by have := hj.1; omega, hj.2⟩⟩
  have HD3 := hid D3
  have HB3 := hid (below_ext (below_ext HB1.out HB1.out.size X2.out) (by have := HB1.out.size; have := X2.out.size; omega) x3)
  clear D3 a3 A2 X2 HB1 x3 hp hp1
  go_wp2_with fail
  go_loopw [14] (fun iv wr => ∃ (k : Nat) (nx ny : Int) (s : Option (Int × Int)), k ≤ n ∧ iv = .int .i64 k ∧ Hid (Two w.heap.size wr g h ⟨200, limit, window, slip⟩ ⟨1, limit, window, slip⟩ nx ny (C 0) (Nm 0) s s k) ∧ Hid (Below w.heap.size w wr) ∧
      Hid (0 ≤ ny ∧ ny ≤ nx ∧ (k = 0 ∧ nx = 0 ∨ 0 < k ∧ nx ≤ max 0 (T (k - 1))))) (fun iv _ => n - (intOf iv).toNat)
  case atStart => exact ⟨0, 0, 0, none, Nat.zero_le _, rfl, HD3, HB3, hid ⟨by omega, by omega, .inl ⟨rfl, rfl⟩⟩⟩
  case round =>
    clear HD3 HB3
    obtain ⟨k, nx, ny, s, hk, rfl, DD, BB, TT⟩ := hrel
    by_cases hlt : k < n
    · obtain ⟨hck, hzk, htk, hcell⟩ := HC.out k hlt
      go_wp2_with fail
      have e0 := ext_drew wr
      have BB1 := hid (below_ext BB.out BB.out.size e0)
      obtain ⟨t1, t2, t3⟩ := hcell _ BB1.out
      have hS : (wr.drew).cell? ⟨bl, o + k * 3, none⟩ = some (.int .i64 (C k)) ∧ (wr.drew).cell? ⟨bl, o + k * 3 + 1, none⟩ = some (.string (Nm k)) ∧ (wr.drew).cell? ⟨bl, o + k * 3 + 2, none⟩ = some (.int .i64 (T k)) := ⟨t1, t2, t3⟩
      have CR := hid (two_x (C k) (Nm k) (T k) (DD.out.ext e0) BB1.out.size hck (by simp only; omega))
      have HCK := hid hcell
      clear t1 t2 t3 e0 hcell
      apply pass2 (fun code w5 => ∃ s', Two w.heap.size w5 g h ⟨200, limit, window, slip⟩ ⟨1, limit, window, slip⟩ (nowX nx (T k) (Nm k)) ny (C 0) (Nm 0) s' s (k + 1) ∧ Below w.heap.size w w5 ∧ (C k = C 0 ∧ Nm k = Nm 0 → code = cdX ⟨200, limit, window, slip⟩ nx (T k) (Nm k) s ∧ s' = stX ⟨200, limit, window, slip⟩ nx (T k) (Nm k) s) ∧ (¬ (C k = C 0 ∧ Nm k = Nm 0) → s' = s))
      case main =>
        intro key
        go_region_held3 (fun w' => w'.cell? ⟨bl, o + k * 3, none⟩ = some (.int .i64 (C k)) ∧ w'.cell? ⟨bl, o + k * 3 + 1, none⟩ = some (.string (Nm k)) ∧ w'.cell? ⟨bl, o + k * 3 + 2, none⟩ = some (.int .i64 (T k))) (go_keep) (first | (go_at_call 9; (refine CR.out.mono ?_; rintro e w5 ⟨code, s', rfl, D5, b5, k1, k2⟩; have B5 := BB1.out.trans b5; have k5 : w5.cell? ⟨bl, o + k * 3, none⟩ = some (.int .i64 (C k)) ∧ w5.cell? ⟨bl, o + k * 3 + 1, none⟩ = some (.string (Nm k)) ∧ w5.cell? ⟨bl, o + k * 3 + 2, none⟩ = some (.int .i64 (T k)) := HCK.out _ B5)))
        all_goals exact key _ _ ⟨s', D5, B5, k1, k2⟩
      case key =>
        rintro code w5 ⟨s', D5, B5, k1, k2⟩
        obtain ⟨t1, t2, t3⟩ := HCK.out _ B5
        obtain ⟨q1, q2, _⟩ := (HC.out 0 h0).2.2.2 _ B5
        simp only [Nat.zero_mul, Nat.add_zero] at q1 q2
        have HD5 := hid D5
        have HB5 := hid B5
        have HK1 := hid k1
        have HK2 := hid k2
        clear D5 B5 k1 k2 hS CR BB1
        have i1 : (0 : Int) ≤ (k : Int) := by omega
        have i2 : (k : Int) < (n : Int) := by omega
        have i3 : (0 : Int) < (n : Int) := by omega
        by_cases hdn : 0 < k ∧ T k < T (k - 1)
        · obtain ⟨j, hj⟩ : ∃ j, j = k - 1 := ⟨_, rfl⟩
          rw [← hj] at hdn
          obtain ⟨_, _, p3⟩ := (HC.out j (by omega)).2.2.2 _ HB5.out
          have z1 : decide ((0 : Int) < (k : Int)) = true := by rw [decide_eq_true_iff]; omega
          have z1' : decide (0 < k) = true := by rw [decide_eq_true_iff]; omega
          have z2 : decide (T k < T j) = true := by rw [decide_eq_true_iff]; exact hdn.2
          have w1 : IntKind.i64.wrap ((k : Int) - 1) = (j : Int) := by rw [IntWalk.i64_in _ (by omega)]; omega
          have w2 : (j : Int) < (n : Int) := by omega
          have HJ := hid hj
          generalize T k = tk at *
          generalize T j = tj at *
          clear hdn hj DD BB TT htk hck hzk t1 t2 q1 q2 HC HCK HD5 HK1 HK2
          go_wp2_with fail
          go_quiet (fail)
          go_wp2_with fail
          go_ret
          exact ⟨rfl, below_ext HB5.out HB5.out.size (ext_drewN _ _)⟩
        · have hk0 : k = 0 ∨ 0 < k ∧ T (k - 1) ≤ T k := by omega
          have hnow : 0 ≤ ny ∧ ny ≤ nx ∧ nx ≤ max 0 (T k) := by have := TT.out; omega
          obtain ⟨y1, y2, y3, y4, y5⟩ := apart_same limit window slip (T k) (Nm k) s hnow.1 hnow.2.1 hnow.2.2
          have HE := hid (And.intro y1 (And.intro y2 (And.intro y3 (And.intro y4 y5))))
          have HNW := hid hnow
          clear y1 y2 y3 y4 y5 hnow hdn TT DD
          rcases hk0 with hk0 | hk0
          · have z1 : decide ((0 : Int) < (k : Int)) = false := by rw [decide_eq_false_iff_not]; omega
            have z1' : decide (0 < k) = false := by rw [decide_eq_false_iff_not]; omega
            have H9 := hid hk0
            clear hk0
            go_wp2_with fail
            go_quiet (fail)
            go_wp2_with fail
            by_cases hkey : C k = C 0 ∧ Nm k = Nm 0
            · obtain ⟨hcode, hs'⟩ := HK1.out hkey
              obtain ⟨y1, y2, y3, y4, y5⟩ := HE.out
              rw [hkey.2] at y1 y2 y3 y4 y5 hcode hs'
              rw [hkey.1] at t1
              rw [hkey.2] at t2
              have HD5' : Two w.heap.size w5 g h ⟨200, limit, window, slip⟩ ⟨1, limit, window, slip⟩ (nowX nx (T k) (Nm 0)) ny (C 0) (Nm 0) s' s (k + 1) := by have := HD5.out; rwa [hkey.2] at this
              have CY : ∀ W, Ext w5 W → Calls Try.prog 9 #[.pointer (some ⟨h, 0, none⟩), .int .i64 (C 0), .string (Nm 0), .int .i64 (T k)] W fun e w' => e = .returned (.int .i64 code) ∧ Two w.heap.size w' g h ⟨200, limit, window, slip⟩ ⟨1, limit, window, slip⟩ (nowX nx (T k) (Nm 0)) (nowX ny (T k) (Nm 0)) (C 0) (Nm 0) s' s' (k + 1) ∧ Below w.heap.size W w' := fun W hW => by
                have := two_y (T k) (HD5'.ext hW) (Nat.le_trans HB5.out.size hW.size) hc0
                rw [← y1, ← hcode, ← y2, ← hs'] at this
                exact this
              have HCY := hid CY
              have HY := hid (And.intro y3 (And.intro y4 y5))
              have HK6 : Hid (∀ w', Below w.heap.size w w' → w'.cell? ⟨bl, o, none⟩ = some (.int .i64 (C 0)) ∧ w'.cell? ⟨bl, o + 1, none⟩ = some (.string (Nm 0)) ∧ w'.cell? ⟨bl, o + k * 3, none⟩ = some (.int .i64 (C 0)) ∧ w'.cell? ⟨bl, o + k * 3 + 1, none⟩ = some (.string (Nm 0)) ∧ w'.cell? ⟨bl, o + k * 3 + 2, none⟩ = some (.int .i64 (T k))) := hid (fun W' hW' => by
                obtain ⟨a1, a2, a3⟩ := HCK.out _ hW'
                obtain ⟨b1, b2, _⟩ := (HC.out 0 h0).2.2.2 _ hW'
                rw [hkey.1] at a1
                rw [hkey.2] at a2
                simp only [Nat.zero_mul, Nat.add_zero] at b1 b2
                exact ⟨b1, b2, a1, a2, a3⟩)
              have z3 : (C 0 == C 0) = true := by simp
              have z4 : ((Nm 0).toList == (Nm 0).toList) = true := by simp
              have z5 : (code != code) = false := by simp
              have hS : (w5.drewN (nq + 1)).cell? ⟨bl, o, none⟩ = some (.int .i64 (C 0)) ∧ (w5.drewN (nq + 1)).cell? ⟨bl, o + 1, none⟩ = some (.string (Nm 0)) ∧ (w5.drewN (nq + 1)).cell? ⟨bl, o + k * 3, none⟩ = some (.int .i64 (C 0)) ∧ (w5.drewN (nq + 1)).cell? ⟨bl, o + k * 3 + 1, none⟩ = some (.string (Nm 0)) ∧ (w5.drewN (nq + 1)).cell? ⟨bl, o + k * 3 + 2, none⟩ = some (.int .i64 (T k)) := ⟨q1, q2, t1, t2, t3⟩
              clear CY y1 y2 y3 y4 y5 hcode hs' HD5' hkey HE HK1 HK2 HD5 t1 t2 t3 q1 q2 hck hzk htk
              go_region_held3 (fun w' => w'.cell? ⟨bl, o, none⟩ = some (.int .i64 (C 0)) ∧ w'.cell? ⟨bl, o + 1, none⟩ = some (.string (Nm 0)) ∧ w'.cell? ⟨bl, o + k * 3, none⟩ = some (.int .i64 (C 0)) ∧ w'.cell? ⟨bl, o + k * 3 + 1, none⟩ = some (.string (Nm 0)) ∧ w'.cell? ⟨bl, o + k * 3 + 2, none⟩ = some (.int .i64 (T k))) (go_keep) (first | (go_at_call 9; (refine (HCY.out _ (ext_trans (ext_drewN _ _) (ext_drew _))).mono ?_; rintro e w6 ⟨rfl, D6, b6⟩; have B6 := (below_ext HB5.out HB5.out.size (ext_trans (ext_drewN _ _) (ext_drew _))).trans b6; have k6 := HK6.out _ B6)))
              all_goals
                go_wp2_with fail
                go_roundw
                case rel => exact ⟨k + 1, _, _, s', by omega, by go_num, hid D6, hid B6, hid ⟨HY.out.1, HY.out.2.1, .inr ⟨by omega, HY.out.2.2⟩⟩⟩
                case measure => simp [intOf]; omega
            · have hs2 := HK2.out hkey
              have HD6 : Hid (Two w.heap.size w5 g h ⟨200, limit, window, slip⟩ ⟨1, limit, window, slip⟩ (nowX nx (T k) (Nm k)) ny (C 0) (Nm 0) s s (k + 1)) := by have := HD5.out; rw [hs2] at this; exact hid this
              have HY : Hid (0 ≤ ny ∧ ny ≤ nowX nx (T k) (Nm k) ∧ nowX nx (T k) (Nm k) ≤ max 0 (T k)) := by
                obtain ⟨y1, y2, y3, y4, y5⟩ := HE.out
                refine hid ⟨HNW.out.1, ?_, y5⟩
                have := HNW.out.2.1
                unfold nowX
                split <;> omega
              clear hs2 HE HK1 HK2 HD5
              by_cases hcc : C k = C 0
              · have hnn : ¬ Nm k = Nm 0 := fun e => hkey ⟨hcc, e⟩
                have z3 : (C k == C 0) = true := by rw [hcc]; simp
                have z4 : ((Nm k).toList == (Nm 0).toList) = false := by
                  rw [beq_eq_false_iff_ne]
                  intro e
                  rw [ByteArray.toList_eq, ByteArray.toList_eq] at e
                  exact hnn (by rw [← str_of (Nm k), e, str_of])
                clear hkey hcc hnn
                generalize C k = ck at *
                generalize Nm k = nk at *
                go_quiet (fail)
                go_wp2_with fail
                go_roundw
                case rel => exact ⟨k + 1, _, _, s, by omega, by go_num, hid (HD6.out.ext (ext_drewN _ _)), hid (below_ext HB5.out HB5.out.size (ext_drewN _ _)), hid ⟨HY.out.1, HY.out.2.1, .inr ⟨by omega, HY.out.2.2⟩⟩⟩
                case measure => simp [intOf]; omega
              · have z3 : (C k == C 0) = false := by rw [beq_eq_false_iff_ne]; exact hcc
                clear hkey hcc
                generalize C k = ck at *
                generalize Nm k = nk at *
                go_quiet (fail)
                go_wp2_with fail
                go_roundw
                case rel => exact ⟨k + 1, _, _, s, by omega, by go_num, hid (HD6.out.ext (ext_drewN _ _)), hid (below_ext HB5.out HB5.out.size (ext_drewN _ _)), hid ⟨HY.out.1, HY.out.2.1, .inr ⟨by omega, HY.out.2.2⟩⟩⟩
                case measure => simp [intOf]; omega
          · obtain ⟨j, hj⟩ : ∃ j, j = k - 1 := ⟨_, rfl⟩
            rw [← hj] at hk0
            obtain ⟨_, _, p3⟩ := (HC.out j (by omega)).2.2.2 _ HB5.out
            have z1 : decide ((0 : Int) < (k : Int)) = true := by rw [decide_eq_true_iff]; omega
            have z1' : decide (0 < k) = true := by rw [decide_eq_true_iff]; omega
            have z2 : decide (T k < T j) = false := by rw [decide_eq_false_iff_not]; omega
            have w1 : IntKind.i64.wrap ((k : Int) - 1) = (j : Int) := by rw [IntWalk.i64_in _ (by omega)]; omega
            have w2 : (j : Int) < (n : Int) := by omega
            have H9 := hid (And.intro hj hk0)
            clear hj hk0
            go_wp2_with fail
            go_quiet (fail)
            clear p3 z2 w1 w2
            go_wp2_with fail
            by_cases hkey : C k = C 0 ∧ Nm k = Nm 0
            · obtain ⟨hcode, hs'⟩ := HK1.out hkey
              obtain ⟨y1, y2, y3, y4, y5⟩ := HE.out
              rw [hkey.2] at y1 y2 y3 y4 y5 hcode hs'
              rw [hkey.1] at t1
              rw [hkey.2] at t2
              have HD5' : Two w.heap.size w5 g h ⟨200, limit, window, slip⟩ ⟨1, limit, window, slip⟩ (nowX nx (T k) (Nm 0)) ny (C 0) (Nm 0) s' s (k + 1) := by have := HD5.out; rwa [hkey.2] at this
              have CY : ∀ W, Ext w5 W → Calls Try.prog 9 #[.pointer (some ⟨h, 0, none⟩), .int .i64 (C 0), .string (Nm 0), .int .i64 (T k)] W fun e w' => e = .returned (.int .i64 code) ∧ Two w.heap.size w' g h ⟨200, limit, window, slip⟩ ⟨1, limit, window, slip⟩ (nowX nx (T k) (Nm 0)) (nowX ny (T k) (Nm 0)) (C 0) (Nm 0) s' s' (k + 1) ∧ Below w.heap.size W w' := fun W hW => by
                have := two_y (T k) (HD5'.ext hW) (Nat.le_trans HB5.out.size hW.size) hc0
                rw [← y1, ← hcode, ← y2, ← hs'] at this
                exact this
              have HCY := hid CY
              have HY := hid (And.intro y3 (And.intro y4 y5))
              have HK6 : Hid (∀ w', Below w.heap.size w w' → w'.cell? ⟨bl, o, none⟩ = some (.int .i64 (C 0)) ∧ w'.cell? ⟨bl, o + 1, none⟩ = some (.string (Nm 0)) ∧ w'.cell? ⟨bl, o + k * 3, none⟩ = some (.int .i64 (C 0)) ∧ w'.cell? ⟨bl, o + k * 3 + 1, none⟩ = some (.string (Nm 0)) ∧ w'.cell? ⟨bl, o + k * 3 + 2, none⟩ = some (.int .i64 (T k))) := hid (fun W' hW' => by
                obtain ⟨a1, a2, a3⟩ := HCK.out _ hW'
                obtain ⟨b1, b2, _⟩ := (HC.out 0 h0).2.2.2 _ hW'
                rw [hkey.1] at a1
                rw [hkey.2] at a2
                simp only [Nat.zero_mul, Nat.add_zero] at b1 b2
                exact ⟨b1, b2, a1, a2, a3⟩)
              have z3 : (C 0 == C 0) = true := by simp
              have z4 : ((Nm 0).toList == (Nm 0).toList) = true := by simp
              have z5 : (code != code) = false := by simp
              have hS : (w5.drewN (nq + 1)).cell? ⟨bl, o, none⟩ = some (.int .i64 (C 0)) ∧ (w5.drewN (nq + 1)).cell? ⟨bl, o + 1, none⟩ = some (.string (Nm 0)) ∧ (w5.drewN (nq + 1)).cell? ⟨bl, o + k * 3, none⟩ = some (.int .i64 (C 0)) ∧ (w5.drewN (nq + 1)).cell? ⟨bl, o + k * 3 + 1, none⟩ = some (.string (Nm 0)) ∧ (w5.drewN (nq + 1)).cell? ⟨bl, o + k * 3 + 2, none⟩ = some (.int .i64 (T k)) := ⟨q1, q2, t1, t2, t3⟩
              clear CY y1 y2 y3 y4 y5 hcode hs' HD5' hkey HE HK1 HK2 HD5 t1 t2 t3 q1 q2 hck hzk htk
              go_region_held3 (fun w' => w'.cell? ⟨bl, o, none⟩ = some (.int .i64 (C 0)) ∧ w'.cell? ⟨bl, o + 1, none⟩ = some (.string (Nm 0)) ∧ w'.cell? ⟨bl, o + k * 3, none⟩ = some (.int .i64 (C 0)) ∧ w'.cell? ⟨bl, o + k * 3 + 1, none⟩ = some (.string (Nm 0)) ∧ w'.cell? ⟨bl, o + k * 3 + 2, none⟩ = some (.int .i64 (T k))) (go_keep) (first | (go_at_call 9; (refine (HCY.out _ (ext_trans (ext_drewN _ _) (ext_drew _))).mono ?_; rintro e w6 ⟨rfl, D6, b6⟩; have B6 := (below_ext HB5.out HB5.out.size (ext_trans (ext_drewN _ _) (ext_drew _))).trans b6; have k6 := HK6.out _ B6)))
              all_goals
                go_wp2_with fail
                go_roundw
                case rel => exact ⟨k + 1, _, _, s', by omega, by go_num, hid D6, hid B6, hid ⟨HY.out.1, HY.out.2.1, .inr ⟨by omega, HY.out.2.2⟩⟩⟩
                case measure => simp [intOf]; omega
            · have hs2 := HK2.out hkey
              have HD6 : Hid (Two w.heap.size w5 g h ⟨200, limit, window, slip⟩ ⟨1, limit, window, slip⟩ (nowX nx (T k) (Nm k)) ny (C 0) (Nm 0) s s (k + 1)) := by have := HD5.out; rw [hs2] at this; exact hid this
              have HY : Hid (0 ≤ ny ∧ ny ≤ nowX nx (T k) (Nm k) ∧ nowX nx (T k) (Nm k) ≤ max 0 (T k)) := by
                obtain ⟨y1, y2, y3, y4, y5⟩ := HE.out
                refine hid ⟨HNW.out.1, ?_, y5⟩
                have := HNW.out.2.1
                unfold nowX
                split <;> omega
              clear hs2 HE HK1 HK2 HD5
              by_cases hcc : C k = C 0
              · have hnn : ¬ Nm k = Nm 0 := fun e => hkey ⟨hcc, e⟩
                have z3 : (C k == C 0) = true := by rw [hcc]; simp
                have z4 : ((Nm k).toList == (Nm 0).toList) = false := by
                  rw [beq_eq_false_iff_ne]
                  intro e
                  rw [ByteArray.toList_eq, ByteArray.toList_eq] at e
                  exact hnn (by rw [← str_of (Nm k), e, str_of])
                clear hkey hcc hnn
                generalize C k = ck at *
                generalize Nm k = nk at *
                go_quiet (fail)
                go_wp2_with fail
                go_roundw
                case rel => exact ⟨k + 1, _, _, s, by omega, by go_num, hid (HD6.out.ext (ext_drewN _ _)), hid (below_ext HB5.out HB5.out.size (ext_drewN _ _)), hid ⟨HY.out.1, HY.out.2.1, .inr ⟨by omega, HY.out.2.2⟩⟩⟩
                case measure => simp [intOf]; omega
              · have z3 : (C k == C 0) = false := by rw [beq_eq_false_iff_ne]; exact hcc
                clear hkey hcc
                generalize C k = ck at *
                generalize Nm k = nk at *
                go_quiet (fail)
                go_wp2_with fail
                go_roundw
                case rel => exact ⟨k + 1, _, _, s, by omega, by go_num, hid (HD6.out.ext (ext_drewN _ _)), hid (below_ext HB5.out HB5.out.size (ext_drewN _ _)), hid ⟨HY.out.1, HY.out.2.1, .inr ⟨by omega, HY.out.2.2⟩⟩⟩
                case measure => simp [intOf]; omega
    · obtain rfl : k = n := by omega
      obtain ⟨t1, t2, _⟩ := (HC.out 0 h0).2.2.2 _ BB.out
      simp only [Nat.zero_mul, Nat.add_zero] at t1 t2
      have cx := hid (fun m => two_xcount (DD.out.ext (ext_drewN wr m)) hc0 hz0)
      have cy := hid (fun m => two_ycount (DD.out.ext (ext_drewN wr m)) hc0 hz0)
      generalize C 0 = c0 at *
      generalize Nm 0 = n0 at *
      have z1 : ((k : Int) == 0) = false := by rw [beq_eq_false_iff_ne]; omega
      have hm : n0.size ≤ 9223372036854775807 := by unfold maxLen at hz0; omega
      generalize cntO s = cn at *
      have z2 : (cn == cn) = true := by simp
      have z3 : (0 : Int) < (k : Int) := by omega
      have HBB := hid BB.out
      clear HC DD TT hlt
      go_wp2_with fail
      go_quiet ((go_at_call 11; first | with_reducible exact quiet_sym (cx.out _) | with_reducible exact quiet_sym (cy.out _)))
      go_wp2_with fail
      go_ret
      exact ⟨rfl, below_ext HBB.out HBB.out.size (ext_drewN _ _)⟩
end Go.Proofs.Ytnoepnbgnlolbaa

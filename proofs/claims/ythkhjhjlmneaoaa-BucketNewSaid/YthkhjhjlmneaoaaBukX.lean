/- BucketNew: the walk within the range. -/
import Derived.Test.YthkhjhjlmneaoaaBukV
namespace Go.Proofs.Ythkhjhjlmneaoaa
open Go.BK Go.RowKit
set_option linter.unusedVariables false

set_option maxRecDepth 100000 in
set_option maxHeartbeats 8000000 in
theorem new_in (r b m : Nat) {A : Option Addr} {n c : Nat} {N B : Nat → Int} {A2 : Option Addr} {n2 c2 : Nat} {N2 B2 : Nat → Int} (w : World) (hr : r ≤ 9007199254740992) (hb : b ≤ 9007199254740992) (hm : m ≤ 1099511627776)
    (hn : n ≤ 60) (hn2 : n2 ≤ 60) (hA : AskR w A n c N B) (hA2 : AskR w A2 n2 c2 N2 B2) :
    Calls Try.prog 3 #[.int .i64 r, .int .i64 b, .int .i64 m, .slice A n c, .slice A2 n2 c2] w fun e w' => e = .returned (.bool true) ∧ Below w.heap.size w w' := by
  have HA := hid (fun k (hk : k < n) => hA.cells hk)
  have HA2 := hid (fun k (hk : k < n2) => hA2.cells hk)
  have hc9 : c ≤ 9223372036854775807 := by have := hA.2.1; unfold maxLen at *; omega
  have hc92 : c2 ≤ 9223372036854775807 := by have := hA2.2.1; unfold maxLen at *; omega
  clear hA hA2
  go_enter Try.func3, Try.ntmps3
  go_wp2_with fail
  refine (awake_yes _).mono ?_; rintro e w1 ⟨rfl, B1⟩
  go_wp2_with fail
  refine (new_ok r b m _ hr hb hm).mono ?_; rintro e w2 ⟨rfl, K2, x2⟩
  obtain ⟨g, hg⟩ : ∃ g, g = w1.heap.size := ⟨_, rfl⟩
  have hgle : w.heap.size ≤ g := by rw [hg]; exact B1.size
  rw [← hg] at K2 ⊢
  have Bq := hid (below_ext B1 B1.size x2)
  have Kq := hid K2
  clear x2 B1 hg K2
  go_wp2_with fail
  go_loopw [2, 14] (fun nv kv wr => ∃ (k nw t a : Nat), k ≤ n ∧ nv = .int .i64 nw ∧ kv = .int .i64 k ∧ nw ≤ 1099511627776 ∧ Hid (a ≤ nw) ∧ Hid (Bkt wr g r b t a) ∧ Hid (Below w.heap.size w wr)) (fun _ kv _ => n - (intOf kv).toNat)
  case atStart => exact ⟨0, m, b, m, Nat.zero_le _, rfl, rfl, hm, hid (Nat.le_refl _), Kq, Bq⟩
  case round =>
    obtain ⟨k, nw, t, a, hk, rfl, rfl, hnw, hanw, KB, BB⟩ := hrel
    clear Kq Bq
    by_cases hlt : k < n
    · obtain ⟨bl, o, hAe, hbN, hbB, cN, cB⟩ := HA.out k hlt
      subst hAe
      have cN0 := cN _ BB.out
      have cB0 := cB _ BB.out
      generalize N k = x at *
      generalize B k = y at *
      obtain ⟨nw2, hnw2⟩ : ∃ z, z = nxt nw y := ⟨_, rfl⟩
      have HN := hid (fun W => next_eq nw nw2 y W hnw hbB hnw2)
      have hl := nxt_le (x := y) hnw
      rw [← hnw2] at hl
      have hl1 := hl.1
      have hta := hid (takeA_le (r := r) x KB.out.ht KB.out.hb (Nat.le_trans hanw.out hl.2) hl.1)
      have HT := hid (take_any x nw2 KB.out (by omega))
      generalize takeB r b t a x nw2 = tb at *
      generalize takeT r b t a x nw2 = t2 at *
      generalize takeA a x nw2 = a2 at *
      clear hnw2 hbB hbN hl cN cB KB
      go_wp2_with fail
      refine (HN.out _).mono ?_; rintro e w3 ⟨rfl, hw⟩; subst hw
      go_wp2_with fail
      refine HT.out.mono ?_; rintro e w3 ⟨rfl, K3, g3⟩
      have B3 := hid (below_grown BB.out BB.out.size g3 hgle)
      have K3 := hid K3
      clear HT g3 BB HN cN0 cB0
      go_wp2_with fail
      go_roundw
      case rel => exact ⟨k + 1, nw2, t2, a2, by omega, rfl, by go_num, hl1, hta, K3, B3⟩
      case measure => simp [intOf]; omega
    · have hke : k = n := by omega
      subst hke
      have HF := hid (full_any nw KB.out (by omega))
      have hfa := (fill_to (rate := r) KB.out.ht KB.out.hb hanw.out hnw).2
      rw [hfa] at HF
      clear hfa hlt hk HA hanw
      generalize hft : fillT r b t a nw = ft at *
      clear KB hft
      by_cases hq : ft = b
      · subst hq
        have e1 : (ft == ft) = true := by simp
        rw [e1] at HF
        clear e1
        go_wp2_with fail
        refine HF.out.mono ?_; rintro e w3 ⟨rfl, K3, g3⟩
        have B3 := hid (below_grown BB.out BB.out.size g3 hgle)
        have K3 := hid K3
        clear HF g3 BB
        go_wp2_with fail
        refine (new_ok r ft nw _ hr hb hnw).mono ?_; rintro e w4 ⟨rfl, K4, x4⟩
        obtain ⟨g2, hg2⟩ : ∃ g2, g2 = w3.heap.size := ⟨_, rfl⟩
        have hgle2 : w.heap.size ≤ g2 := by rw [hg2]; exact B3.out.size
        have hgg : g < g2 := by rw [hg2]; exact K3.out.blk.lt
        rw [← hg2] at K4 ⊢
        have K3 := hid (K3.out.ext x4)
        have B4 := hid (below_ext B3.out B3.out.size x4)
        have K4' := hid K4
        clear hg2 x4 B3 K4
        go_wp2_with fail
        go_loopw [2, 17] (fun nv kv wr => ∃ (k nw t a : Nat), k ≤ n2 ∧ nv = .int .i64 nw ∧ kv = .int .i64 k ∧ nw ≤ 1099511627776 ∧ Hid (Bkt wr g r ft t a) ∧ Hid (Bkt wr g2 r ft t a) ∧ Hid (Below w.heap.size w wr)) (fun _ kv _ => n2 - (intOf kv).toNat)
        case atStart => exact ⟨0, nw, ft, nw, Nat.zero_le _, rfl, rfl, hnw, K3, K4', B4⟩
        case round =>
          clear K3 K4' B4 hnw
          obtain ⟨k, nw, t, a, hk, rfl, rfl, hnw, KB, KC, BB⟩ := hrel
          by_cases hlt : k < n2
          · obtain ⟨bl, o, hAe, hbN, hbB, cN, cB⟩ := HA2.out k hlt
            subst hAe
            have cB0 := cB _ BB.out
            have CN := hid cN
            generalize N2 k = x at *
            generalize B2 k = y at *
            obtain ⟨nw2, hnw2⟩ : ∃ z, z = nxt nw y := ⟨_, rfl⟩
            have HN := hid (fun W => next_eq nw nw2 y W hnw hbB hnw2)
            have hl := nxt_le (x := y) hnw
            rw [← hnw2] at hl
            have hl1 := hl.1
            have HT : Takes 12 r ft t a x nw2 (takeB r ft t a x nw2) (takeT r ft t a x nw2) (takeA a x nw2) := fun W g hK => take_any x nw2 hK (by omega)
            generalize takeB r ft t a x nw2 = tb at *
            generalize takeT r ft t a x nw2 = t2 at *
            generalize takeA a x nw2 = a2 at *
            have HK : Tells 14 r ft t2 a2 nw2 (fillT r ft t2 a2 nw2) (fillA a2 nw2) := fun W g hK => tokens_any nw2 hK (by omega)
            generalize fillT r ft t2 a2 nw2 = t3 at *
            generalize fillA a2 nw2 = a3 at *
            have hgg2 : g2 ≠ g := by omega
            have HGG := hid hgg2
            clear hnw2 hbB hbN hl cN hgg2
            go_wp2_with fail
            refine (HN.out _).mono ?_; rintro e w3 ⟨rfl, hw⟩; subst hw
            have hcw := CN.out _ BB.out
            clear HN cB0
            go_wp2_with fail
            have hS : (wr.drew).cell? ⟨bl, o + k * 2, none⟩ = some (.int .i64 x) := CN.out _ (below_ext BB.out BB.out.size (ext_drew wr))
            have KB := hid (KB.out.ext (ext_drew wr))
            have KC := hid (KC.out.ext (ext_drew wr))
            have BB := hid (below_ext BB.out BB.out.size (ext_drew wr))
            have ne1 : (tb != tb) = false := by simp
            have ne2 : ((t3 : Int) != t3) = false := by simp
            have ne3 : (tb == tb) = true := by simp
            have ne4 : ((t3 : Int) == t3) = true := by simp
            go_region_held3 (fun w' => w'.cell? ⟨bl, o + k * 2, none⟩ = some (.int .i64 x)) (go_keep) (first | (go_at_call 12; first | (refine (HT _ _ KB.out).mono ?_; rintro e w5 ⟨rfl, K5, g5⟩; have KC := hid (KC.out.grown g5 (fun h => HGG.out (Option.some.inj h))); have KB := hid K5; have BB := hid (below_grown BB.out BB.out.size g5 hgle); have k5 : w5.cell? ⟨bl, o + k * 2, none⟩ = some (.int .i64 x) := CN.out _ BB.out; clear K5 g5) | (refine (HT _ _ KC.out).mono ?_; rintro e w5 ⟨rfl, K5, g5⟩; have KB := hid (KB.out.grown g5 (fun h => HGG.out (Option.some.inj h).symm)); have KC := hid K5; have BB := hid (below_grown BB.out BB.out.size g5 hgle2); have k5 : w5.cell? ⟨bl, o + k * 2, none⟩ = some (.int .i64 x) := CN.out _ BB.out; clear K5 g5)) | (go_at_call 14; first | (refine (HK _ _ KB.out).mono ?_; rintro e w5 ⟨rfl, K5, g5⟩; have KC := hid (KC.out.grown g5 (fun h => HGG.out (Option.some.inj h))); have KB := hid K5; have BB := hid (below_grown BB.out BB.out.size g5 hgle); have k5 : w5.cell? ⟨bl, o + k * 2, none⟩ = some (.int .i64 x) := CN.out _ BB.out; clear K5 g5) | (refine (HK _ _ KC.out).mono ?_; rintro e w5 ⟨rfl, K5, g5⟩; have KB := hid (KB.out.grown g5 (fun h => HGG.out (Option.some.inj h).symm)); have KC := hid K5; have BB := hid (below_grown BB.out BB.out.size g5 hgle2); have k5 : w5.cell? ⟨bl, o + k * 2, none⟩ = some (.int .i64 x) := CN.out _ BB.out; clear K5 g5)))
            all_goals (clear HT HK ne1 ne2 ne3 ne4 hS)
            all_goals (go_wp2_with fail)
            all_goals (go_roundw; (case rel => exact ⟨k + 1, nw2, t3, a3, by omega, rfl, by go_num, hl1, KB, KC, BB⟩); (case measure => simp [intOf]; omega))
          · go_wp2_with fail
            go_ret
            exact ⟨rfl, BB.out⟩
      · have e1 : (ft == b) = false := by rw [beq_eq_false_iff_ne]; exact hq
        rw [e1] at HF
        clear e1 hq
        go_wp2_with fail
        refine HF.out.mono ?_; rintro e w3 ⟨rfl, K3, g3⟩
        have B3 := hid (below_grown BB.out BB.out.size g3 hgle)
        clear HF g3 BB K3
        go_wp2_with fail
        go_ret
        exact ⟨rfl, B3.out⟩
end Go.Proofs.Ythkhjhjlmneaoaa

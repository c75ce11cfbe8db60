/- BucketBound: the walk within the range. -/
import Derived.Test.YthkhjhjlmneaoaaBukO
namespace Go.Proofs.Ythkhjhjlmneaoaa
open Go.BK Go.RowKit
set_option linter.unusedVariables false

theorem take_inv {w : World} {g r b t a top nw : Nat} {ats tks : List Nat} (x : Int) (h : Bkt w g r b t a) (hi : Inv r b ats tks t a top) (ht : top ≤ nw) (ha : a ≤ nw) (hn : nw ≤ 1099511627776) :
    (takeB r b t a x nw = true ∧ ∃ y : Nat, x = y ∧ y ≤ b ∧ Inv r b (ats ++ [nw]) (tks ++ [y]) (takeT r b t a x nw) nw nw ∧ takeA a x nw = nw) ∨
    (takeB r b t a x nw = false ∧ Inv r b ats tks (takeT r b t a x nw) (takeA a x nw) nw ∧ takeA a x nw ≤ nw) := by
  have hf := fill_to (rate := r) (burst := b) (t := t) (a := a) (b := nw) h.ht h.hb ha hn
  have hi := inv_top hi ht
  have h1 := inv_fill hi ha
  have hl := h1.le
  unfold takeB takeT takeA
  rw [hf.1, hf.2]
  generalize min (t + r * (nw - a)) b = t' at *
  by_cases h0 : x < 0
  · right
    rw [if_pos h0, if_pos h0]
    exact ⟨by rw [decide_eq_false_iff_not]; omega, hi, ha⟩
  · obtain ⟨y, rfl⟩ : ∃ y : Nat, x = y := ⟨x.toNat, by omega⟩
    rw [if_neg h0, if_neg h0]
    by_cases h2 : (t' : Int) < y
    · right
      rw [if_pos h2]
      exact ⟨by rw [decide_eq_false_iff_not]; omega, h1, Nat.le_refl _⟩
    · left
      rw [if_neg h2]
      refine ⟨by rw [decide_eq_true_iff]; omega, y, rfl, by omega, ?_, rfl⟩
      exact inv_take h1 (by omega) (Nat.le_refl _)

structure TwoL (w : World) (base g : Nat) (A1 : Option Addr) (n1 c1 : Nat) (l1 : List Value) (A2 : Option Addr) (n2 c2 : Nat) (l2 : List Value) : Prop where
  o1 : OwnG isI w base 3 1 A1 n1 c1 l1
  o2 : OwnG isI w base 3 1 A2 n2 c2 l2
  m1 : ∀ x, blk A1 = some x → x ≠ g
  m2 : ∀ x, blk A2 = some x → x ≠ g
  m12 : ∀ x, blk A1 = some x → blk A2 ≠ some x
  lt : g < w.heap.size
section
variable {w w' : World} {base g n1 c1 n2 c2 n5 c5 : Nat} {A1 A2 A5 : Option Addr} {l1 l2 l5 : List Value}
theorem TwoL.grown (h : TwoL w base g A1 n1 c1 l1 A2 n2 c2 l2) (e : w.grownBy w' (some g)) : TwoL w' base g A1 n1 c1 l1 A2 n2 c2 l2 :=
  ⟨h.o1.grown e (fun b hb hh => h.m1 b hb (Option.some.inj hh)), h.o2.grown e (fun b hb hh => h.m2 b hb (Option.some.inj hh)), h.m1, h.m2, h.m12, Nat.lt_of_lt_of_le h.lt e.size⟩
theorem TwoL.app1 (h : TwoL w base g A1 n1 c1 l1 A2 n2 c2 l2) (o : OwnG isI w' base 3 1 A5 n5 c5 l5) (e : w.grownBy w' (blk A1)) (m : ∀ b, blk A5 = some b → blk A1 = some b ∨ w.heap.size ≤ b) : TwoL w' base g A5 n5 c5 l5 A2 n2 c2 l2 :=
  ⟨o, h.o2.grown e (fun b hb hh => h.m12 b hh.symm hb), fun x hx => by
    rcases m x hx with h1 | h1
    · exact h.m1 x h1
    · have := h.lt; omega, h.m2, fun x hx hy => by
    rcases m x hx with h1 | h1
    · exact h.m12 x h1 hy
    · have := (h.o2.lt x hy).2; omega, Nat.lt_of_lt_of_le h.lt e.size⟩
theorem TwoL.app2 (h : TwoL w base g A1 n1 c1 l1 A2 n2 c2 l2) (o : OwnG isI w' base 3 1 A5 n5 c5 l5) (e : w.grownBy w' (blk A2)) (m : ∀ b, blk A5 = some b → blk A2 = some b ∨ w.heap.size ≤ b) : TwoL w' base g A1 n1 c1 l1 A5 n5 c5 l5 :=
  ⟨h.o1.grown e (fun b hb hh => h.m12 b hb hh.symm), o, h.m1, fun x hx => by
    rcases m x hx with h1 | h1
    · exact h.m2 x h1
    · have := h.lt; omega, fun x hx hy => by
    rcases m x hy with h1 | h1
    · exact h.m12 x hx h1
    · have := (h.o1.lt x hx).2; omega, Nat.lt_of_lt_of_le h.lt e.size⟩
theorem TwoL.bkt1 {r b t a : Nat} (h : TwoL w base g A1 n1 c1 l1 A2 n2 c2 l2) (k : Bkt w g r b t a) (e : w.grownBy w' (blk A1)) : Bkt w' g r b t a := k.grown e (fun hh => h.m1 g hh.symm rfl)
theorem TwoL.bkt2 {r b t a : Nat} (h : TwoL w base g A1 n1 c1 l1 A2 n2 c2 l2) (k : Bkt w g r b t a) (e : w.grownBy w' (blk A2)) : Bkt w' g r b t a := k.grown e (fun hh => h.m2 g hh.symm rfl)
end

theorem wrap64_nat {n : Nat} (h : n < 4611686018427387904) : wrap64 (n : Int) = n := by unfold wrap64; omega
theorem wrap64_add2 {a b : Nat} (h : a ≤ 1073741824) (h2 : b < 4611686018427387904) : wrap64 ((a : Int) + b) = a + b := by unfold wrap64; omega
theorem le_dec {s b p : Nat} (h : s ≤ b + p) : decide ((b : Int) + p < s) = false := by rw [decide_eq_false_iff_not]; omega

set_option maxRecDepth 100000 in
set_option maxHeartbeats 8000000 in
theorem bound_in (r b m : Nat) {A : Option Addr} {n c : Nat} {N B : Nat → Int} (w : World) (hr : r ≤ 1073741824) (hb : b ≤ 1073741824) (hm : m ≤ 1073741824) (hn : n ≤ 60) (hA : AskR w A n c N B) :
    Calls Try.prog 8 #[.int .i64 r, .int .i64 b, .int .i64 m, .slice A n c] w fun e w' => e = .returned (.bool true) ∧ Below w.heap.size w w' := by
  obtain ⟨i0, hi0, hz0, hz1, hz2⟩ := info_parts info_int
  have hi0 := hid hi0
  have HA := hid hA
  have hc9 : c ≤ 9223372036854775807 := by have := hA.2.1; unfold maxLen at *; omega
  clear hA
  go_enter Try.func8, Try.ntmps8
  go_wp2_with fail
  refine (known_walk _).mono ?_; rintro e w1 ⟨rfl, B1⟩
  go_wp2_with fail
  refine (new_ok r b m _ (by omega) (by omega) (by omega)).mono ?_; rintro e w2 ⟨rfl, K2, x2⟩
  obtain ⟨g, hg⟩ : ∃ g, g = w1.heap.size := ⟨_, rfl⟩
  have hgle : w.heap.size ≤ g := by rw [hg]; exact B1.size
  rw [← hg] at K2 ⊢
  have B2 := hid (below_ext B1 B1.size x2)
  have K2 := hid K2
  clear x2 B1 hg
  go_wp2_with fail
  go_loopw [2, 12, 13, 14] (fun nv v12 v13 kv wr => ∃ (k nw t a : Nat) (ats tks : List Nat) (A1 : Option Addr) (c1 : Nat) (A2 : Option Addr) (c2 : Nat), k ≤ n ∧ nv = .int .i64 nw ∧ v12 = .slice A1 tks.length c1 ∧ v13 = .slice A2 tks.length c2 ∧ kv = .int .i64 k ∧
      nw ≤ 1073741824 + k * 1048576 ∧ tks.length ≤ k ∧ a ≤ nw ∧ Hid (TwoL wr w.heap.size g A1 tks.length c1 (ats.map iv) A2 tks.length c2 (tks.map iv)) ∧
      Hid (Bkt wr g r b t a) ∧ Hid (Inv r b ats tks t a nw) ∧ Hid (Below w.heap.size w wr))
    (fun _ _ _ kv _ => n - (intOf kv).toNat)
  case atStart => exact ⟨0, m, b, m, [], [], none, 0, none, 0, Nat.zero_le _, rfl, rfl, rfl, rfl, by omega, Nat.zero_le _, Nat.le_refl _, hid ⟨OwnG.nil _ _ _ _ _, OwnG.nil _ _ _ _ _, by simp, by simp, by simp, K2.out.blk.lt⟩, K2, hid (inv_nil (Nat.le_refl _)), B2⟩
  case round =>
    obtain ⟨k, nw, t, a, ats, tks, A1, c1, A2, c2, hk, rfl, rfl, rfl, rfl, hnw, htk, hanw, OL, KB, IV, BB⟩ := hrel
    clear K2 B2
    by_cases hlt : k < n
    · obtain ⟨bl, o, hAe, hbl, hcN, hcB, hbN, hbB⟩ := (HA.out.ext BB.out).2.2 k hlt
      subst hAe
      have HC := hid (fun (W' : World) (hW : Below w.heap.size w W') => show W'.cell? ⟨bl, o + k * 2, none⟩ = some (.int .i64 (N k)) by
        obtain ⟨b', o', e1, _, h1, _⟩ := (HA.out.ext hW).2.2 k hlt
        injection e1 with e1
        injection e1 with e1 e2
        subst e1; subst e2
        exact h1)
      generalize N k = x at *
      by_cases q1 : B k < 0
      · generalize B k = bk at *
        clear hcN
        go_wp2_with fail
        go_ret
        exact ⟨rfl, BB.out⟩
      by_cases q2 : 1048576 < B k
      · generalize B k = bk at *
        clear hcN
        go_wp2_with fail
        go_ret
        exact ⟨rfl, BB.out⟩
      obtain ⟨d, hd⟩ : ∃ d : Nat, B k = d := ⟨(B k).toNat, by omega⟩
      rw [hd] at hcB q1 q2
      have hd2 : d ≤ 1048576 := by omega
      obtain ⟨nw2, hnw2⟩ : ∃ y : Nat, y = nw + d := ⟨_, rfl⟩
      have hadd : (nw : Int) + d = nw2 := by omega
      have hle : nw ≤ nw2 := by omega
      have hle2 : nw2 ≤ 1073741824 + (k + 1) * 1048576 := by omega
      clear hd hnw2 q1 q2 hbB
      have HT := hid (take_any x nw2 KB.out (by omega))
      rcases take_inv x KB.out IV.out hle (Nat.le_trans hanw hle) (by omega) with ⟨ht, y, hy, hyb, I2, ha2⟩ | ⟨ht, I2, ha2⟩
      · rw [ht, ha2] at HT
        generalize takeT r b t a x nw2 = t2 at *
        have I2 := hid I2
        subst hy
        have hi1 := hi0.out
        have hmx : tks.length + 1 ≤ maxLen := by unfold maxLen; omega
        clear ha2 ht
        go_wp2_with fail
        refine HT.out.mono ?_; rintro e w3 ⟨rfl, K3, g3⟩
        have O3 := OL.out.grown g3
        have B3 := hid (below_grown BB.out BB.out.size g3 hgle)
        have hsz3 := B3.out.size
        have ow3 := O3.o1
        have O3 := hid O3
        have K3 := hid K3
        clear HT g3 OL KB BB IV hcN hcB
        go_wp2_with (at_builtin; first | ((with_reducible show wpList _ _ _ (⟨some 99, _, _, _, _, _⟩ :: _) _ _); go_must (refine wpList_append_1' rfl (.tmp 96) (.tmp 98) 50 rfl w.heap.size 3 i0 (.int .i64 0) 8 Try.underlying50 hi1 hz0 hz1 hz2 rfl ⟨0, rfl⟩ (fun _ h => h.one) rfl ow3 (.int .i64 (nw2 : Int)) (by rfl) ⟨_, rfl⟩ (by omega) hmx hsz3 ?_); intro A5 c5 w5 o5 g5 x5 n5; have O5 := O3.out.app1 o5 g5 n5; have K5 := hid (O3.out.bkt1 K3.out g5); have B5 := hid (B3.out.trans x5); have hc5 := HC.out _ B5.out; have ow5 := O5.o2; have hsz5 := B5.out.size; have O5 := hid O5; clear o5 g5 x5 n5 ow3 hsz3) | ((with_reducible show wpList _ _ _ (⟨some 107, _, _, _, _, _⟩ :: _) _ _); go_must (refine wpList_append_1' rfl (.tmp 100) (.tmp 106) 50 rfl w.heap.size 3 i0 (.int .i64 0) 8 Try.underlying50 hi1 hz0 hz1 hz2 rfl ⟨0, rfl⟩ (fun _ h => h.one) rfl ow5 (.int .i64 (y : Int)) (by rfl) ⟨_, rfl⟩ (by omega) hmx hsz5 ?_); intro A6 c6 w6 o6 g6 x6 n6; have O6 := hid (O5.out.app2 o6 g6 n6); have K6 := hid (O5.out.bkt2 K5.out g6); have B6 := hid (B5.out.trans x6); clear o6 g6 x6 n6 ow5 hsz5))
        go_roundw
        case rel => exact ⟨k + 1, nw2, t2, nw2, ats ++ [nw2], tks ++ [y], A5, c5, A6, c6, by omega, rfl, by rw [List.length_append, List.length_singleton], by rw [List.length_append, List.length_singleton], by go_num, hle2, by rw [List.length_append, List.length_singleton]; omega, Nat.le_refl _, hid (by rw [List.length_append, List.length_singleton, List.map_append, List.map_append, List.map_singleton, List.map_singleton]; exact O6.out), K6, I2, B6⟩
        case measure => simp [intOf]; omega
      · rw [ht] at HT
        generalize takeT r b t a x nw2 = t2 at *
        generalize takeA a x nw2 = a2 at *
        have I2 := hid I2
        clear ht
        go_wp2_with fail
        refine HT.out.mono ?_; rintro e w3 ⟨rfl, K3, g3⟩
        have O3 := hid (OL.out.grown g3)
        have B3 := hid (below_grown BB.out BB.out.size g3 hgle)
        have K3 := hid K3
        clear HT g3 OL KB BB IV hcN hcB
        go_wp2_with fail
        go_roundw
        case rel => exact ⟨k + 1, nw2, t2, a2, ats, tks, A1, c1, A2, c2, by omega, rfl, rfl, rfl, by go_num, hle2, by omega, ha2, O3, K3, I2, B3⟩
        case measure => simp [intOf]; omega
    · have hke : k = n := by omega
      subst hke
      have ha1 := IV.out.len
      have PA := hid IV.out.past
      have EA := hid IV.out.each
      have TP := hid IV.out.top
      have ES := hid (fun i (hi : i < tks.length) => ps_succ hi)
      have hl62 : tks.length ≤ 60 := by omega
      have hc29 := OL.out.o2.rd.c_le
      have hc19 := OL.out.o1.rd.c_le
      have hnwM : nw ≤ 1136656384 := by omega
      obtain ⟨wa, hwa⟩ : ∃ x, x = wr := ⟨_, rfl⟩
      subst hwa
      clear hlt KB IV hk HA hanw hnw htk
      go_wp2_with fail
      go_loopw [15] (fun v wx => ∃ i : Nat, i ≤ tks.length ∧ v = .int .i64 i ∧ Hid (Ext wa wx)) (fun v _ => tks.length - (intOf v).toNat)
      case atStart => exact ⟨0, Nat.zero_le _, rfl, hid (ext_refl _)⟩
      case round =>
        obtain ⟨i, hi, rfl, X1⟩ := hrel
        by_cases hlt : i < tks.length
        · go_wp2_with fail
          go_loopw [16, 17] (fun sv v wy => ∃ (k2 s : Nat), i ≤ k2 ∧ k2 ≤ tks.length ∧ sv = .int .i64 s ∧ v = .int .i64 k2 ∧ Hid (s + ps tks i = ps tks k2) ∧ s ≤ k2 * 1073741824 ∧ Hid (Ext wa wy)) (fun _ v _ => tks.length - (intOf v).toNat)
          case atStart => exact ⟨i, 0, Nat.le_refl _, by omega, rfl, rfl, hid (Nat.zero_add _), Nat.zero_le _, X1⟩
          case round =>
            obtain ⟨k2, s, hik, hk2, rfl, rfl, SP, hs, X2⟩ := hrel
            clear X1
            by_cases hlt2 : k2 < tks.length
            · obtain ⟨b1, o1, e1, _, c1k⟩ := ((OL.out.o1.ext X2.out).rd.at_ hlt2)
              obtain ⟨b1', o1', e1', _, c1i⟩ := ((OL.out.o1.ext X2.out).rd.at_ hlt)
              obtain ⟨b2, o2, e2, _, c2k⟩ := ((OL.out.o2.ext X2.out).rd.at_ hlt2)
              subst e1
              subst e2
              injection e1' with e1'
              injection e1' with e1' e1''
              subst e1'; subst e1''
              have gi : ((ats.map iv).getD i undef) = .int .i64 (ats.getD i 0) := by simp [iv, List.getD_eq_getElem?_getD, List.getElem?_eq_getElem (show i < ats.length by omega)]
              have gk : ((ats.map iv).getD k2 undef) = .int .i64 (ats.getD k2 0) := by simp [iv, List.getD_eq_getElem?_getD, List.getElem?_eq_getElem (show k2 < ats.length by omega)]
              have gt : ((tks.map iv).getD k2 undef) = .int .i64 (tks.getD k2 0) := by simp [iv, List.getD_eq_getElem?_getD, List.getElem?_eq_getElem (show k2 < tks.length by omega)]
              rw [gi] at c1i
              rw [gk] at c1k
              rw [gt] at c2k
              have p1 := PA.out i k2 hik hlt2
              have p2 := EA.out k2 hlt2
              have p3 := TP.out k2 hlt2
              have p4 := ES.out k2 hlt2
              have p5 := SP.out
              generalize ats.getD i 0 = ai at *
              generalize ats.getD k2 0 = ak at *
              generalize tks.getD k2 0 = tk at *
              obtain ⟨d, hd⟩ : ∃ d : Nat, d = ak - ai := ⟨_, rfl⟩
              obtain ⟨p, hp⟩ : ∃ p : Nat, p = r * d := ⟨_, rfl⟩
              have hd1 : (ak : Int) - ai = d := by omega
              have hp1 : (r : Int) * d = p := by rw [hp]; simp
              have hp2 : p ≤ 1073741824 * 1136656384 := by rw [hp]; exact Nat.mul_le_mul hr (by omega)
              have hsp : s + tk + ps tks i = ps tks (k2 + 1) := by omega
              have htest : s + tk ≤ b + p := by rw [hp, hd]; omega
              have SP := hid hsp
              obtain ⟨s2, hs2⟩ : ∃ x : Nat, x = s + tk := ⟨_, rfl⟩
              have hs3 : (s : Int) + tk = s2 := by omega
              rw [← hs2] at SP htest
              have hs4 : s2 ≤ (k2 + 1) * 1073741824 := by omega
              have hs5 : s2 ≤ 66571993088 := by omega
              have htk0 : (tk : Int) ≤ b := by omega
              have hp3 : p < 4611686018427387904 := Nat.lt_of_le_of_lt hp2 (by decide)
              have hti : decide ((b : Int) + p < s2) = false := le_dec htest
              have hw1 := hid (wrap64_nat (n := d) (by omega))
              have hw2 := hid (wrap64_nat (n := p) (by omega))
              have hw3 := hid (wrap64_add2 (a := b) (b := p) (by omega) hp3)
              have hti := hid hti
              clear gi gk gt p1 p3 p4 p5 hp hd hsp hs2 htest hp2 hp3
              go_wp2_with fail
              have hw1 := hw1.out
              have hw2 := hw2.out
              have hw3 := hw3.out
              have hti := hti.out
              go_quiet (fail)
              go_wp2_with fail
              go_roundw
              case rel =>
                exact ⟨k2 + 1, s2, by omega, by omega, rfl, by go_num, SP, hs4, hid (ext_trans X2.out (ext_drewN _ _))⟩
              case measure => simp [intOf]; omega
            · go_wp2_with fail
              go_roundw
              case rel => exact ⟨i + 1, by omega, by go_num, X2⟩
              case measure => simp [intOf]; omega
        · go_wp2_with fail
          go_ret
          exact ⟨rfl, below_ext BB.out BB.out.size X1.out⟩
end Go.Proofs.Ythkhjhjlmneaoaa

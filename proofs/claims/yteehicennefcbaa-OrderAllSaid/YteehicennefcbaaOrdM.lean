/- OrderAll: each goes once, none ahead of a lower one. -/
import Derived.Test.YteehicennefcbaaOrdK
import Derived.Test.YteehicennefcbaaOrdL
import Derived.Test.YteehicennefcbaaKPick
import Derived.Test.YteehicennefcbaaKStep
import Derived.Deep.DeepCutAuto
namespace Go.Proofs.Yteehicennefcbaa
open Go.BK Go.RowKit
set_option linter.unusedVariables false

def isI (v : Value) : Prop := ∃ n : Int, v = .int .i64 n
theorem isI.one {v : Value} (h : isI v) : v.oneCell' = true := by obtain ⟨n, rfl⟩ := h; rfl
abbrev iv (n : Nat) : Value := .int .i64 n
theorem isI_map (l : List Nat) : ∀ u ∈ l.map iv, isI u := by intro u hu; obtain ⟨n, _, rfl⟩ := List.mem_map.1 hu; exact ⟨_, rfl⟩
theorem info_int : (Try.prog.info? 3).map (fun i => (i.zero, i.size, i.bytes)) = some (some (.int .i64 0), 1, 8) := by kernel_rfl
theorem all_split (left : List Nat) (kk : Nat) (hk : kk < left.length) : left = left.take kk ++ left[kk] :: left.drop (kk + 1) := by
  rw [← List.drop_eq_getElem_cons hk, List.take_append_drop]
theorem all_good {left : List Nat} {gone m kk : Nat} (hG : Good left gone m) (hk : kk < left.length) : ∃ D, gone + D = goneS (left.take kk ++ left.drop (kk + 1)) m ∧ gone + D ≤ m ∧ Good (left.take kk ++ left.drop (kk + 1)) (gone + D) m := by
  have h := all_step (a := left.take kk) (b := left.drop (kk + 1)) (n := left[kk]) (gone := gone) (m := m) (by rw [← all_split left kk hk]; exact hG) _ rfl
  refine ⟨goneS (left.take kk ++ left.drop (kk + 1)) m - gone, by have := h.2.2.1; omega, ?_, ?_⟩
  · have := good_le h.2.1; have := h.2.2.1; omega
  · rw [show gone + (goneS (left.take kk ++ left.drop (kk + 1)) m - gone) = goneS (left.take kk ++ left.drop (kk + 1)) m from by have := h.2.2.1; omega]
    exact h.2.1
theorem all_done {U : Nat → Prop} {w : World} {g gone m kk n D : Nat} {left : List Nat} (hW : Win U w g m (gone + 1) (stL left gone m)) (hG : Good left gone m) (hm : m ≤ 64) (hk : kk < left.length) (hn : left[kk] = n)
    (hD : gone + D = goneS (left.take kk ++ left.drop (kk + 1)) m) {A : Option Addr} (hA : Rd w A 1 [UInt8.ofNat n]) :
    Calls Try.prog 12 #[.pointer (some ⟨g, 0, none⟩), .int .i64 n, .slice A 1 1] w fun e w' => ∃ A' c', e = .returned (.tuple #[.slice A' D c', .int .i64 0]) ∧
      RdL w' A' D c' ((List.range' (gone + 1) D).map fun n => [UInt8.ofNat n]) ∧ Win (More U w w') w' g m (gone + D + 1) (stL (left.take kk ++ left.drop (kk + 1)) (gone + D) m) ∧ Shy U w w' := by
  subst hn
  have hge := good_le hG
  have h := all_step (a := left.take kk) (b := left.drop (kk + 1)) (n := left[kk]) (gone := gone) (m := m) (by rw [← all_split left kk hk]; exact hG) _ rfl
  rw [← all_split left kk hk, ← hD, show gone + D - gone = D from by omega] at h
  have c := win_done (l := [UInt8.ofNat left[kk]]) (c := 1) ((left[kk] : Nat) : Int) hW (by rw [stL_length]; omega) hA (by simp)
  rw [h.1, h.2.2.2.1, h.2.2.2.2] at c
  refine c.mono ?_
  rintro e w' ⟨A', c', rfl, h1, h2, h3⟩
  rw [List.length_map, List.length_range'] at h1 h2 ⊢
  rw [show gone + 1 + D = gone + D + 1 from by omega] at h2
  exact ⟨A', c', rfl, h1, h2, h3⟩

set_option maxRecDepth 100000 in
set_option maxHeartbeats 8000000 in
theorem all_walk (many : Int) {A : Option Addr} {c : Nat} {W : List Int} (w : World) (hm : -9223372036854775808 ≤ many ∧ many ≤ 9223372036854775807) (hW : RdI w A c W) :
    Calls Try.prog 7 #[.int .i64 many, .slice A W.length c] w fun e w' => e = .returned (.bool true) ∧ Ext w w' := by
  have hp0 := pick_range many 64 (by decide)
  obtain ⟨p, hp⟩ : ∃ p : Nat, pick many 64 = p := ⟨(pick many 64).toNat, by omega⟩
  have hp64 : p < 64 := by omega
  have PK := hid (fun W => pick_any many 64 W hm (by decide))
  rw [hp] at PK
  have hl9 := hW.1.n_le
  have HRW := hid hW
  obtain ⟨i0, hi0, hz0, hz1, hz2⟩ := info_parts info_int
  have hi0 := hid hi0
  clear hp hp0 hW
  go_enter Try.func7, Try.ntmps7
  go_wp2_with fail
  refine (known_walk _).mono ?_; rintro e w1 ⟨rfl, B1⟩
  go_wp2_with fail
  refine (PK.out _).mono ?_; rintro e w2 ⟨rfl, rfl⟩
  go_wp2_with fail
  refine (win_new (1 + p) _ (by omega) (by omega)).mono ?_; rintro e w3 ⟨g, rfl, W3, x3⟩
  have hU3 : ∀ k, (w1.heap.size ≤ k ∧ k < w3.heap.size) → w.heap.size ≤ k := fun k hk => Nat.le_trans B1.size hk.1
  generalize hUU : (fun k => w1.heap.size ≤ k ∧ k < w3.heap.size) = U at W3
  have hUb : ∀ k, U k → w.heap.size ≤ k := by subst hUU; exact hU3
  have B3 := below_ext B1 B1.size x3
  clear B1 x3 hU3 hUU
  by_cases hbig : 1000 < W.length
  · go_wp2_with fail
    go_ret
    exact ⟨rfl, B3⟩
  go_wp2_with fail
  go_loopw [8, 9] (fun v i wr => ∃ (k : Nat) (A' : Option Addr) (c' : Nat), k ≤ 1 + p ∧ i = .int .i64 k ∧ v = .slice A' k c' ∧ OwnG isI wr w.heap.size 3 1 A' k c' ((List.range' 1 k).map iv) ∧ (∀ b, blk A' = some b → ¬ U b) ∧ Win U wr g (1 + p) 1 (List.replicate k none) ∧ Ext w wr) (fun _ i _ => 1 + p - (intOf i).toNat)
  case atStart => exact ⟨0, none, 0, Nat.zero_le _, rfl, rfl, OwnG.nil _ _ _ _ _, by simp, W3, B3⟩
  case round =>
    obtain ⟨k, A', c', hk, rfl, rfl, ow, hnU, WK, BK⟩ := hrel
    by_cases hlt : k < 1 + p
    · have hq : openS (1 + p) 1 (List.replicate k (none : Option Bs)) = ((k : Int) + 1, 0) ∧ openL (1 + p) (List.replicate k (none : Option Bs)) = List.replicate (k + 1) none := by
        unfold openS openL
        rw [List.length_replicate, if_neg (by omega), if_neg (by omega), List.replicate_succ']
        exact ⟨by rw [Int.add_comm]; rfl, rfl⟩
      have HC := hid (win_open WK (by simp; omega))
      rw [hq.1, hq.2] at HC
      have HB := hid BK
      have hi1 := hi0.out
      have hmx : k + 1 ≤ maxLen := by unfold maxLen; omega
      have HOW := hid ow
      have HNU := hid hnU
      clear hq WK BK W3 B3 ow hnU
      go_wp2_with fail
      refine HC.out.mono ?_; rintro e w4 ⟨rfl, W4, s4⟩
      have B4 := below_shy HB.out HB.out.size s4 hUb
      have ow4 := s4.ownG HOW.out HNU.out
      have hsz4 := B4.size
      clear HC HB
      go_wp2_with (at_builtin; go_must (refine wpList_append_1' rfl (.tmp 57) (.tmp 59) 55 rfl w.heap.size 3 i0 (.int .i64 0) 8 Try.underlying55 hi1 hz0 hz1 hz2 rfl ⟨0, rfl⟩ (fun _ h => h.one) rfl ow4 (.int .i64 ((k : Int) + 1)) (by rfl) ⟨_, rfl⟩ (by omega) hmx hsz4 ?_); intro A5 c5 w5 o5 g5 x5 n5)
      have W5 := hid (W4.shy (shy_of_grown g5) (fun b hb e => HNU.out b e hb))
      have B5 := hid (B4.trans (x5 : Below w.heap.size w4 w5))
      have n5' : ∀ b, blk A5 = some b → ¬ U b := fun b hb hu => by
        rcases n5 b hb with h | h
        · exact HNU.out b h hu
        · have := W4.lt b hu; omega
      have N5 := hid n5'
      have O5 := hid o5
      clear n5 n5' x5 g5 o5 W4 ow4 s4 B4
      go_roundw
      case rel => exact ⟨k + 1, A5, c5, by omega, by go_num, rfl, by rw [List.range'_1_concat, List.map_append, List.map_singleton, show iv (1 + k) = .int .i64 ((k : Int) + 1) from by simp [iv]; omega]; exact O5.out, N5.out, W5.out, B5.out⟩
      case measure => simp [intOf]; omega
    · have hke : k = 1 + p := by omega
      subst hke
      have hq : openS (1 + p) 1 (List.replicate (1 + p) (none : Option Bs)) = (0, 8) ∧ openL (1 + p) (List.replicate (1 + p) (none : Option Bs)) = List.replicate (1 + p) none := by
        unfold openS openL
        rw [List.length_replicate, if_pos (Nat.le_refl _), if_pos (Nat.le_refl _)]
        exact ⟨rfl, rfl⟩
      have HC := hid (win_open WK (by simp; omega))
      rw [hq.1, hq.2] at HC
      have HB := hid BK
      have HOW := hid ow
      have HNU := hid hnU
      clear hq WK BK W3 B3 ow hnU hlt hk
      go_wp2_with fail
      refine HC.out.mono ?_; rintro e w4 ⟨rfl, W4, s4⟩
      have B4 := hid (below_shy HB.out HB.out.size s4 hUb)
      have ow4 := hid (s4.ownG HOW.out HNU.out)
      have W4 := hid W4
      have HUb := hid hUb
      clear HC HB HOW s4 hUb
      go_wp2_with fail
      go_loopw [8, 14, 15] (fun v gv xv wr => ∃ (left : List Nat) (gone t : Nat) (A' : Option Addr) (c' : Nat) (U : Nat → Prop), t + left.length = 1 + p ∧ xv = .int .i64 t ∧ gv = .int .i64 gone ∧ v = .slice A' left.length c' ∧
          Hid (OwnG isI wr w.heap.size 3 1 A' left.length c' (left.map iv)) ∧ Hid (∀ b, blk A' = some b → ¬ U b) ∧ Hid (Good left gone (1 + p)) ∧ Hid (Win U wr g (1 + p) (gone + 1) (stL left gone (1 + p))) ∧ Hid (∀ k, U k → w.heap.size ≤ k) ∧ Hid (Ext w wr))
        (fun v _ _ _ => match v with | .slice _ n _ => n | _ => 0)
      case atStart =>
        have hg := good_start (1 + p) (by omega)
        refine ⟨List.range' 1 (1 + p), 0, 0, A', c', U, by rw [List.length_range', Nat.zero_add], rfl, rfl, by rw [List.length_range'], hid ?_, HNU, hid hg.1, hid ?_, HUb, B4⟩
        · rw [List.length_range']; exact ow4.out
        · rw [hg.2]; exact W4.out
      case round =>
        obtain ⟨left, gone, t, A6, c6, U6, htl, rfl, rfl, rfl, oL, nL, gL, WL, uL, BL⟩ := hrel
        clear ow4 W4 HUb HNU B4
        cases left with
        | nil => 
          have hg0 : gone = 1 + p := gL.out.2.2
          subst hg0
          have C3 := hid (win_first WL.out (by rw [stL_length]; omega))
          rw [if_pos (by rw [stL_length]; omega)] at C3
          have hse : (List.map iv []) = [] := rfl
          clear gL oL nL hse htl
          simp only [List.length_nil]
          go_wp2_with fail
          refine C3.out.mono ?_; rintro e w5 ⟨rfl, d, rfl⟩
          have B5 := below_ext BL.out BL.out.size (ext_drewN _ d)
          go_wp2_with fail
          go_ret
          exact ⟨rfl, B5⟩
        | cons l0 lt =>
          have hpos : 0 < (l0 :: lt).length := by simp
          generalize hleft : l0 :: lt = left at *
          have hll := oL.out.rd.c_le
          have HL0 := hid hleft
          clear hleft
          go_upto_if 74 with (fail)
          go_cut [16] (fun s16 wx => ∃ kk : Nat, kk < left.length ∧ s16 = .int .i64 kk ∧ wx = wr)
          case first =>
            rcases Nat.lt_or_ge t W.length with hi | hi
            · have hRW := HRW.out
              have hRd := RdG.ext hRW.1 BL.out
              obtain ⟨bw, ow, hA, hbw, hcw⟩ := hRd.at_ hi
              subst hA
              have hgd : (List.map (Value.int .i64) W).getD t undef = .int .i64 (W.getD t 0) := by simp [hi]
              rw [hgd] at hcw
              have hmem : W.getD t 0 ∈ W := by simp [hi]
              have hbd := hRW.2 _ hmem
              have hpr := pick_range (W.getD t 0) left.length (by omega)
              obtain ⟨kk, hkk⟩ : ∃ kk : Nat, pick (W.getD t 0) left.length = kk := ⟨(pick (W.getD t 0) left.length).toNat, by omega⟩
              have hkl : kk < left.length := by omega
              have hq := hid (pick_any (W.getD t 0) left.length wr hbd (by omega))
              rw [hkk] at hq
              generalize W.getD t 0 = wt at *
              clear hRd hgd hmem hRW hpr hkk hbd
              go_wp2_with fail
              refine hq.out.mono ?_; rintro e w5 ⟨rfl, hw⟩; subst hw
              go_wp2_with fail
              go_meet
              exact ⟨kk, hkl, rfl, rfl⟩
            · go_wp2_with fail
              go_meet
              exact ⟨0, hpos, rfl, rfl⟩
          case rest =>
            obtain ⟨kk, hkl, rfl, rfl⟩ := hcut
            have gL' := gL.out
            have hnr := gL'.2.1 left[kk] (List.getElem_mem hkl)
            obtain ⟨D, hD1, hD2, hD3⟩ := all_good gL' hkl
            obtain ⟨gl, rfl, hgb, hgl⟩ := oL.out.head (by have := oL.out.rd.2.1; omega)
            obtain ⟨b', o', hAe, hb', hcl⟩ := oL.out.rd.at_ hkl
            injection hAe with hAe
            injection hAe with e1 e2
            subst e1; subst e2
            rw [show (left.map iv).getD kk undef = .int .i64 left[kk] from by simp [hkl], Nat.zero_add] at hcl
            generalize hn : left[kk] = n at *
            have hge := good_le gL'
            have hD := hid (fun (W : World) (hW : Win U6 W g (1 + p) (gone + 1) (stL left gone (1 + p))) (A : Option Addr) (hA : Rd W A 1 [UInt8.ofNat n]) => all_done hW gL' (by omega) hkl hn hD1 hA)
            have HD3 := hid hD3
            generalize hl2 : left.take kk ++ left.drop (kk + 1) = left2 at *
            have HL2 := hid hl2
            have hn1 : (1 : Int) ≤ n := by omega
            have hn2 : (n : Int) ≤ 64 := by omega
            have hk0 : (0 : Int) ≤ kk := by omega
            have hkl' : (kk : Int) < left.length := by omega
            have hne := World.new_ne wc ⟨gl, kk, none⟩ hcl
            have HN := hid hn
            have HR := hid hnr
            clear gL' hn hnr hD1 hD3 hl2
            go_wp2_with fail
            have hlit : #[Value.int IntKind.u8 (IntKind.u8.wrap (n : Int))] = (List.map u8v [UInt8.ofNat n]).toArray := by
              have h1 : IntKind.u8.wrap (n : Int) = n := by
                rw [IntKind.wrap_u8]; omega
              rw [h1]
              have h2 : (UInt8.ofNat n).toNat = n := by simp; omega
              simp [h2]
            have HLIT := hid hlit
            clear hlit
            go_region_held3 (fun w' => w'.cell? ⟨gl, kk, none⟩ = some (.int .i64 n)) (go_keep) (first | (go_at_call 12; have e0 := ext_trans (ext_alloc wc (.cells #[Value.int IntKind.u8 (IntKind.u8.wrap (n : Int))] 5)) (ext_drew _); refine (hD.out _ (WL.out.ext e0) _ ((Own.lit_at wc wc.heap.size [UInt8.ofNat n] 5 _ rfl HLIT.out (by simp [maxLen])).rd.ext (ext_drew _))).mono ?_; rintro e w5 ⟨A7, c7, rfl, R7, W7, s7⟩; have B5 := below_shy (below_ext BL.out BL.out.size e0) (Nat.le_trans BL.out.size e0.size) s7 uL.out; have N5 : ∀ k, More U6 ((wc.alloc (.cells #[Value.int IntKind.u8 (IntKind.u8.wrap (n : Int))] 5)).drew) w5 k → w.heap.size ≤ k := fun k hk => hk.elim (uL.out k) fun hk => Nat.le_trans (Nat.le_trans BL.out.size e0.size) hk.1; have oL5 := s7.ownG (oL.out.ext e0) nL.out; have nL5 : ∀ b, blk (some (⟨gl, 0, none⟩ : Addr)) = some b → ¬ More U6 ((wc.alloc (.cells #[Value.int IntKind.u8 (IntKind.u8.wrap (n : Int))] 5)).drew) w5 b := (fun b hb hm => hm.elim (nL.out b hb) fun hm => by injection hb with hb; subst hb; have h7 := Nat.lt_of_lt_of_le hgl e0.size; exact absurd hm.1 (Nat.not_le_of_lt h7)); generalize More U6 ((wc.alloc (.cells #[Value.int IntKind.u8 (IntKind.u8.wrap (n : Int))] 5)).drew) w5 = U7 at W7 N5 nL5; have k5 : w5.cell? ⟨gl, kk, none⟩ = some (.int .i64 n) := ((World.cell?_of_block (s7.block gl (Nat.lt_of_lt_of_le hgl e0.size) (nL.out gl rfl))).trans (e0.cell (p := ⟨gl, kk, none⟩) hgl)).trans hcl; clear e0 s7))
            have R7 := hid R7
            have W7 := hid W7
            have B5 := hid B5
            have N5 := hid N5
            have oL5 := hid oL5
            have nL5 := hid nL5
            clear k5 hcl oL nL gL WL uL BL hD HLIT hne
            go_wp2_with fail
            go_loopw [14, 19] (fun gv jv wq => ∃ j : Nat, j ≤ D ∧ jv = .int .i64 j ∧ gv = .int .i64 ((gone : Int) + j) ∧ Hid (Ext w5 wq)) (fun _ j _ => D - (intOf j).toNat)
            case atStart => exact ⟨0, Nat.zero_le _, rfl, by simp, hid (ext_refl _)⟩
            case round =>
              obtain ⟨j, hj, rfl, rfl, xq⟩ := hrel
              by_cases hjlt : j < D
              · obtain ⟨b8, o8, A8, c8, rfl, hb8, g8, rd8⟩ := (R7.out.ext xq.out).at_ hjlt
                have hgd : (List.map (fun n => [UInt8.ofNat n]) (List.range' (gone + 1) D)).getD j [] = [UInt8.ofNat (gone + 1 + j)] := by simp [List.getD, hjlt]
                rw [hgd] at g8 rd8
                have hlit : #[Value.int IntKind.u8 ((gone : Int) + j + 1)] = (List.map u8v [UInt8.ofNat (gone + 1 + j)]).toArray := by
                  have h2 : (UInt8.ofNat (gone + 1 + j)).toNat = gone + 1 + j := by simp; omega
                  have h3 : ((UInt8.ofNat (gone + 1 + j)).toNat : Int) = (gone : Int) + j + 1 := by omega
                  show _ = #[Value.int IntKind.u8 ((UInt8.ofNat (gone + 1 + j)).toNat : Int)]
                  rw [h3]
                have HLIT := hid hlit
                have rd8 := hid rd8
                clear hgd hlit
                go_wp2_with fail
                have e8 := ext_alloc wr (.cells #[Value.int IntKind.u8 ((gone : Int) + j + 1)] 5)
                refine (same_yes (rd8.out.ext e8) (Own.lit_at wr wr.heap.size [UInt8.ofNat (gone + 1 + j)] 5 _ rfl HLIT.out (by simp [maxLen])).rd rfl).mono ?_; rintro e w9 ⟨rfl, rfl⟩
                have e9 := hid (ext_trans xq.out e8)
                clear e8 xq HLIT rd8
                go_wp2_with fail
                go_roundw
                case rel => exact ⟨j + 1, by omega, by go_num, by simp; omega, e9⟩
                case measure => simp [intOf]; omega
              · have hje : j = D := by omega
                subst hje
                clear hjlt hj
                have hc0 : left.length ≤ c6 := oL5.out.rd.2.1
                have hc1 : (kk : Int) ≤ c6 := by omega
                have hc2 : (0 : Int) ≤ (kk : Int) + 1 := by omega
                have hc4 : (kk : Int) + 1 ≤ left.length := by omega
                have hc6 : ¬ c6 = 0 := by omega
                have hc5 : IntKind.i64.wrap ((kk : Int) + 1) = (kk : Int) + 1 := IntWalk.i64_in _ (by omega)
                have hc3 : ((kk : Int) + 1).toNat = kk + 1 := by omega
                obtain ⟨A9, hA9, hs8⟩ : ∃ A9, (kk + 1 < left.length → A9 = (some (⟨gl, 0, none⟩ : Addr)).map (·.add ((kk + 1) * 1))) ∧ ∀ w : World, (Instr.slice 55 (.slice (some ⟨gl, 0, none⟩) left.length c6) (some (.int .i64 ((kk : Int) + 1))) none none).run Try.prog w = .ok (.slice A9 (left.length - (kk + 1)) (c6 - (kk + 1))) w := by
                  by_cases hcap : kk + 1 = c6
                  · refine ⟨some ⟨gl, 0, none⟩, by omega, fun w => ?_⟩
                    go_simp
                  · refine ⟨some ⟨gl, kk + 1, none⟩, fun _ => by simp [Addr.add], fun w => ?_⟩
                    go_simp
                    omega
                clear hc6
                go_wp2_with fail
                refine wp_region_any (by kernel_rfl) ?_
                change wpAny _ _ _ _ _ _ _ (World.drew _)
                refine wpAny_take (i := 1) (v := .slice (some ⟨gl, 0, none⟩) left.length c6) rfl (by kernel_rfl) (by kernel_rfl) (by kernel_rfl) (fun _ _ _ h => h) (Or.inl ⟨by kernel_rfl, fun _ => by go_simp⟩) ?_
                refine wpAny_take (i := 2) (v := .int .i64 kk) rfl (by kernel_rfl) (by kernel_rfl) (by kernel_rfl) (fun _ _ _ h => h) (Or.inl ⟨by kernel_rfl, fun _ => by go_simp⟩) ?_
                refine wpAny_take (i := 3) (v := .slice (some ⟨gl, 0, none⟩) kk c6) rfl (by kernel_rfl) (by kernel_rfl) (by kernel_rfl) (fun _ _ _ h => h) (Or.inl ⟨by kernel_rfl, fun _ => by go_simp⟩) ?_
                refine wpAny_take (i := 5) (v := .slice (some ⟨gl, 0, none⟩) left.length c6) rfl (by kernel_rfl) (by kernel_rfl) (by kernel_rfl) (fun _ _ _ h => h) (Or.inl ⟨by kernel_rfl, fun _ => by go_simp⟩) ?_
                refine wpAny_take (i := 6) (v := .int .i64 kk) rfl (by kernel_rfl) (by kernel_rfl) (by kernel_rfl) (fun _ _ _ h => h) (Or.inl ⟨by kernel_rfl, fun _ => by go_simp⟩) ?_
                refine wpAny_take (i := 7) (v := .int .i64 ((kk : Int) + 1)) rfl (by kernel_rfl) (by kernel_rfl) (by kernel_rfl) (fun _ _ _ h => h) (Or.inl ⟨by kernel_rfl, fun _ => by go_simp⟩) ?_
                refine wpAny_take (i := 8) (v := .slice A9 (left.length - (kk + 1)) (c6 - (kk + 1))) rfl (by kernel_rfl) (by kernel_rfl) (by kernel_rfl) (fun _ _ _ h => h) (Or.inl ⟨by kernel_rfl, fun _ => by go_simp⟩) ?_
                refine wpAny_ready (rs := [0]) (by kernel_rfl) (by simp) ?_
                refine AllReady.cons rfl (fun K hK => ?_) AllReady.nil
                go_simp
                refine hK _ _ ?_
                clear hK K
                refine wpAny_ready (rs := [4]) (by kernel_rfl) (by simp) ?_
                refine AllReady.cons rfl (fun K hK => ?_) AllReady.nil
                have e9 : Ext wr ((wr.alloc (.cells #[] 3)).drew) := ext_trans (ext_alloc _ _) (ext_drew _)
                have on9 : OwnG isI ((wr.alloc (.cells #[] 3)).drew) wr.heap.size 3 1 (some ⟨wr.heap.size, 0, none⟩) 0 0 [] := (OwnG.new (ok := isI) (base := wr.heap.size) (size := 1) (e := 3) wr [] 0 0 (Nat.le_refl _) rfl (Nat.le_refl _) (by simp [maxLen]) (by simp)).ext (ext_drew _)
                have oLr := oL5.out.ext (ext_trans xq.out e9)
                have rT : RdG ((wr.alloc (.cells #[] 3)).drew) 1 (some ⟨gl, 0, none⟩) kk c6 ((left.take kk).map iv) := by
                  have := oLr.rd.cut (i := 0) (j := kk) (Nat.zero_le _) (Nat.le_of_lt hkl) (A' := some ⟨gl, 0, none⟩) (fun _ => by simp [Addr.add])
                  simpa using this
                have rD : RdG ((wr.alloc (.cells #[] 3)).drew) 1 A9 (left.length - (kk + 1)) (c6 - (kk + 1)) ((left.drop (kk + 1)).map iv) := by
                  have := oLr.rd.cut (i := kk + 1) (j := left.length) (by omega) (Nat.le_refl _) (A' := A9) hA9
                  rw [Nat.mul_one, Nat.mul_one, List.take_of_length_le (by simp), ← List.map_drop] at this
                  exact this
                have hlr : gl < wr.heap.size := (oL5.out.ext xq.out).lt gl rfl |>.2
                have hbA9 : 0 < left.length - (kk + 1) → blk A9 = some gl := fun h => by rw [hA9 (by omega)]; rfl
                generalize (wr.alloc (.cells #[] 3)).drew = W9 at *
                refine step_append_g rfl (.tmp 116) (.tmp 119) 55 rfl wr.heap.size 3 i0 (.int .i64 0) 1 8 Try.underlying55 hi0.out hz0 hz1 hz2 rfl (by decide) (by simp [Value.cells]; exact ⟨0, rfl⟩) (fun _ h => h.one) rfl on9 rfl rT (isI_map _) (by omega) (by unfold maxLen; omega) e9.size ?_
                intro A10 c10 w10 o10 g10 n10
                refine hK _ _ ?_
                clear hK K
                have rD10 := rD.grown g10 (fun h e => by rw [hbA9 h] at e; injection e with e; simp at e; omega)
                refine wpAny_ready (rs := [9]) (by kernel_rfl) (by simp) ?_
                refine AllReady.cons rfl (fun K hK => ?_) AllReady.nil
                refine step_append_g rfl (.tmp 120) (.tmp 124) 55 rfl wr.heap.size 3 i0 (.int .i64 0) 1 8 Try.underlying55 hi0.out hz0 hz1 hz2 rfl (by decide) (by simp [Value.cells]; exact ⟨0, rfl⟩) (fun _ h => h.one) rfl o10 rfl rD10 (isI_map _) (by omega) (by unfold maxLen; omega) (Nat.le_trans e9.size g10.size) ?_
                intro A11 c11 w11 o11 g11 n11
                refine hK _ _ ?_
                clear hK K
                refine wpAny_ready (rs := [10]) (by kernel_rfl) (by simp) ?_
                refine AllReady.cons rfl (fun K hK => ?_) AllReady.nil
                go_simp
                refine hK _ _ ?_
                clear hK K
                refine wpAny_done (by kernel_rfl) ?_ _
                have e10 := below_of_grown e9 e9.size g10 (fun g h => by simp at h; omega)
                have hb10 : ∀ b, blk A10 = some b → wr.heap.size ≤ b := fun b hb => by
                  rcases n10 with rfl | rfl
                  · simp at hb; omega
                  · simp at hb; have := e9.size; omega
                have e11 := below_of_grown e10 e10.size g11 (fun g h => hb10 g h)
                have hb11 : ∀ b, blk A11 = some b → wr.heap.size ≤ b := fun b hb => by
                  rcases n11 with rfl | rfl
                  · exact hb10 b hb
                  · simp at hb; have := e10.size; omega
                have hw5 := xq.out.size
                have W11 := hid (W7.out.ext (ext_trans xq.out e11))
                have nL11 := hid (fun b hb hu => by have h1 := hb11 b hb; have h2 := W7.out.lt b hu; exact absurd (Nat.lt_of_lt_of_le h2 hw5) (Nat.not_lt_of_le h1) : ∀ b, blk A11 = some b → ¬ U7 b)
                have B11 := hid (below_ext B5.out B5.out.size (ext_trans xq.out e11))
                have hl2 : left2.length + 1 = left.length := by rw [← HL2.out]; simp; omega
                have o11' : OwnG isI w11 w.heap.size 3 1 A11 left2.length c11 (left2.map iv) := by
                  have := o11.mono (show w.heap.size ≤ wr.heap.size from Nat.le_trans B5.out.size xq.out.size)
                  rw [Nat.zero_add, show kk + (left.length - (kk + 1)) = left2.length from by omega, List.nil_append, ← List.map_append, HL2.out] at this
                  exact this
                rw [show kk + (left.length - (kk + 1)) = left2.length from by omega]
                have O11 := hid o11'
                have hgl := good_le HD3.out
                have hL1 : ((stL left2 (gone + j) (1 + p)).length : Int) = 1 + (p : Int) - ((gone : Int) + j) := by rw [stL_length]; omega
                have hL2 : ((stL left2 (gone + j) (1 + p)).countP Option.isSome : Int) = 1 + (p : Int) - left2.length - ((gone : Int) + j) := by
                  have := stL_count left2 (gone + j) (1 + p) HD3.out hgl
                  omega
                have C1 := hid (win_len W11.out (by rw [stL_length]; omega))
                have C2 := hid (fun d => win_ready (W11.out.ext (ext_drewN _ d)))
                rw [hL1] at C1
                rw [hL2] at C2
                clear hL1 hL2 o11 o11' n11 n10 g11 g10 o10 rD10 rD rT oLr on9 e9 e10 e11 hb10 hb11 hA9 hs8 hbA9 hlr
                have HKL := hid hl2
                rcases Nat.eq_zero_or_pos left2.length with h0 | h0
                · clear hl2
                  go_wp2_with fail
                  refine C1.out.mono ?_; rintro e w12 ⟨rfl, d, rfl⟩
                  go_wp2_with fail
                  refine (C2.out d).mono ?_; rintro e w13 ⟨rfl, rfl⟩
                  go_wp2_with fail
                  refine ⟨⟨left2, gone + j, t + 1, A11, c11, U7, by have := HKL.out; omega, by go_num, by go_num, by rw [h0], hid (O11.out.ext (ext_drewN _ _)), nL11, HD3, hid (W11.out.ext (ext_drewN _ _)), N5, hid (below_ext B11.out B11.out.size (ext_drewN _ _))⟩, ?_⟩
                  show 0 < left.length
                  have := HKL.out
                  omega
                · obtain ⟨b12, o12, hA12, hb12, hc12⟩ := O11.out.rd.at_ h0
                  have hhd : (left2.map iv).getD 0 undef = .int .i64 ((gone : Int) + j + 1) := by
                    have h1 := HD3.out.2.2
                    have h2 := HD3.out.2.1
                    rcases left2 with _ | ⟨h, tl⟩
                    · simp at h0
                    · have := h2 h List.mem_cons_self
                      simp [goneS] at h1
                      simp
                      omega
                  rw [hhd] at hc12
                  simp only [Nat.add_zero] at hc12
                  obtain rfl := hA12
                  have hl64 : left2.length ≤ 64 := by omega
                  clear hl2 hhd hb12
                  have hsub : (gone : Int) + j + 1 - 1 = (gone : Int) + j := by omega
                  go_wp2_with fail
                  refine C1.out.mono ?_; rintro e w12 ⟨rfl, d, rfl⟩
                  go_wp2_with fail
                  refine (C2.out d).mono ?_; rintro e w13 ⟨rfl, rfl⟩
                  go_wp2_with fail
                  refine ⟨⟨left2, gone + j, t + 1, some ⟨b12, o12, none⟩, c11, U7, by have := HKL.out; omega, by go_num, by go_num, rfl, hid (O11.out.ext (ext_drewN _ _)), nL11, HD3, hid (W11.out.ext (ext_drewN _ _)), N5, hid (below_ext B11.out B11.out.size (ext_drewN _ _))⟩, ?_⟩
                  show left2.length < left.length
                  have := HKL.out
                  omega
end Go.Proofs.Yteehicennefcbaa

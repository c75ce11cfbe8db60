/- Layer 11: the document's Decode. -/
import Derived.Test.YtgcdpkjohaplcaaBasX
import Derived.RegionTactic
import Derived.BigRegion
import Derived.ChangeAlike
import Derived.Outline
namespace Go.Proofs.Ytgcdpkjohaplcaa
open Go.BK Go.RowKit
set_option linter.unusedVariables false
theorem numI_ok {c : UInt8} (h : BM.numN c < 64) : numI c = (BM.numN c : Int) := by unfold numI; rw [if_pos h]
theorem numI_no {c : UInt8} (h : BM.numN c = 255) : numI c = -1 := by unfold numI; rw [if_neg (by omega)]
theorem shr_run (d s v : Nat) (hs : s ≤ 5) (hv : d / 2 ^ s = v) (w : World) : (binOp .shr 3 (.int .i64 d) (.int .i64 s)).run Try.prog w = .ok (.int .i64 v) w := by
  subst hv
  rcases (show s = 0 ∨ s = 1 ∨ s = 2 ∨ s = 3 ∨ s = 4 ∨ s = 5 by omega) with rfl | rfl | rfl | rfl | rfl | rfl
  all_goals
    simp [binOp, Op.shift, IntKind.bits, Int.fdiv_eq_ediv_of_nonneg]
theorem shl_run (x s y : Nat) (hx : x < 2) (hs : s ≤ 7) (hy : x * 2 ^ s = y) (w : World) : (binOp .shl 5 (.int .u8 x) (.int .i64 s)).run Try.prog w = .ok (.int .u8 y) w := by
  subst hy
  rcases (show s = 0 ∨ s = 1 ∨ s = 2 ∨ s = 3 ∨ s = 4 ∨ s = 5 ∨ s = 6 ∨ s = 7 by omega) with rfl | rfl | rfl | rfl | rfl | rfl | rfl | rfl
  all_goals
    simp [binOp, Op.shift, IntKind.bits, IntKind.wrap, IntKind.signed]
    omega
theorem wraps_u8 (n : Int) (h₀ : 0 ≤ n) (h₁ : n < 2 ^ 8) : IntKind.u8.wrap n = n := by simp [IntKind.wrap, IntKind.bits, IntKind.signed]; omega
theorem or_u8 (i x y : Nat) (hi : i ≤ 8) (hx : x % 2 ^ i = 0) (hx1 : x < 256) (hy : y < 2 ^ i) (hy1 : y < 256) : bits .or .u8 (x : Int) (y : Int) = ((x + y : Nat) : Int) := by
  have h := bits_join .u8 8 (by decide) wraps_u8 i (x : Int) (y : Int) (by omega) (by exact_mod_cast hx) (by omega) (by omega) (by exact_mod_cast hy) (by omega)
  rw [h]; simp
theorem sizeS_yes (len : Nat) (h : len % 4 ≠ 1) : sizeS (len : Int) = (((len / 4 * 3 + (len % 4 - 1) : Nat) : Int), true) := by
  unfold sizeS
  rw [if_neg (by omega)]
  congr 1
  omega
set_option maxHeartbeats 8000000 in
set_option maxRecDepth 100000 in
theorem refdecode_any (l : List UInt8) (w : World) (hl : l.length ≤ 1000000) :
    Calls Try.prog 9 #[.string (str l)] w fun e w' => ∃ A c, e = .returned (.tuple #[.slice A (decR l).1.length c, .agg #[.int .i64 (decR l).2.1, .int .i64 (decR l).2.2]]) ∧ Own w' w.heap.size 5 A c (decR l).1 ∧ Below w.heap.size w w' := by
  obtain ⟨i0, hi, hz0, hz1, hz2⟩ := info_parts info_u8
  obtain ⟨R, hR⟩ : ∃ R, decR l = R := ⟨_, rfl⟩
  rw [hR]
  have HR := hid hR
  clear hR
  obtain ⟨s, hs⟩ : ∃ s, s = str l := ⟨_, rfl⟩
  have hsz : s.size = l.length := by rw [hs, str_size]
  have hget : ∀ k (h : k < s.size), l[k]? = some (s[k]'h) := by
    subst hs
    intro k h
    have h' : k < l.length := by rw [← hsz]; exact h
    rw [List.getElem?_eq_getElem h']
    rfl
  rw [← hs]
  have HS := hid hsz
  have hsl : s.size ≤ 1000000 := by omega
  have HG := hid hget
  have CN := hid number_any
  have K0 := Blk.new w 26 #[.int .i64 0, .int .i64 0]
  have hx0 := ext_alloc w (.cells #[.int .i64 0, .int .i64 0] 26)
  have hW0 : (w.alloc (.cells #[.int .i64 0, .int .i64 0] 26)).heap.size = w.heap.size + 1 := by simp
  clear hs hsz hget
  go_enter Try.func9, Try.ntmps9
  go_wp2_with fail
  generalize w.alloc (.cells #[.int .i64 0, .int .i64 0] 26) = W at K0 hx0 hW0 ⊢
  obtain ⟨f0, f1, ff⟩ := K0.two
  have K0 := hid K0
  have hx0 := hid hx0
  go_loop [4] (fun i => ∃ k : Nat, k ≤ s.size ∧ i = .int .i64 k ∧ OkTo l k) (fun i => s.size - (intOf i).toNat)
  case atStart => exact ⟨0, Nat.zero_le _, rfl, by intro j c hj; omega⟩
  case round =>
    obtain ⟨k, hk, rfl, hok⟩ := hrel
    have OK := hid hok
    clear hok
    by_cases hlt : k < s.size
    · obtain ⟨x, hx⟩ : ∃ x, s[k]'hlt = x := ⟨_, rfl⟩
      have hlx : l[k]? = some x := by rw [HG.out k hlt, hx]
      rcases BM.num_ok x with hn64 | hn64
      · have cn := hid (CN.out x)
        rw [numI_ok hn64.1] at cn
        have hOK2 := hid (okTo_succ OK.out hlx hn64.1)
        obtain ⟨d, hd⟩ : ∃ d, BM.numN x = d := ⟨_, rfl⟩
        rw [hd] at cn
        clear hlx hn64 hd
        go_wp2_with fail
        refine (cn.out _).mono ?_
        rintro e _ ⟨rfl, rfl⟩
        go_wp2_with fail
        go_round
        case rel => exact ⟨k + 1, by omega, by go_num, hOK2.out⟩
        case measure => simp [intOf]; omega
      · have cn := hid (CN.out x)
        rw [numI_no hn64] at cn
        have hRb := decR_bad OK.out hlx hn64
        rw [HR.out] at hRb
        subst hRb
        clear hlx hn64
        go_wp2_with fail
        refine (cn.out _).mono ?_
        rintro e _ ⟨rfl, rfl⟩
        go_wp2_with fail
        obtain ⟨q1, q2⟩ := two_set K0.out (.int .i64 4) (.int .i64 k)
        refine bodyPost_ret (by simp [results, Try.results9, go_sem, q1, q2]; rfl) rfl ?_
        exact ⟨none, 0, rfl, Own.nil _ _ _, (hx0.out.setCell (p := ⟨w.heap.size, 0, none⟩) (Nat.le_refl _) _).setCell (p := ⟨w.heap.size, 1, none⟩) (Nat.le_refl _) _⟩
    · obtain rfl : k = s.size := by omega
      have hok := OK.out
      rw [HS.out] at hok
      have hlt64 : ∀ d ∈ digs l, d < 64 := by
        intro d hd
        obtain ⟨y, hy, rfl⟩ := List.mem_map.1 hd
        obtain ⟨j, hj, rfl⟩ := List.getElem_of_mem hy
        exact hok j _ (by omega) (List.getElem?_eq_getElem hj)
      have hno := badAt_no hok
      have hRe : decR l = if l.length % 4 = 1 then ([], 4, (l.length : Int)) else if (BM.decS 0 0 (digs l)).2.2 ≠ 0 then ([], 4, (l.length : Int) - 1) else ((BM.decS 0 0 (digs l)).1, 0, 0) := by
        unfold decR
        rw [if_neg hno]
      rw [HR.out] at hRe
      have CS := hid (fun W => refsize_any (s.size : Int) W (by omega))
      by_cases h4 : l.length % 4 = 1
      · rw [if_pos h4] at hRe
        subst hRe
        have hz : sizeS (s.size : Int) = (0, false) := by unfold sizeS; rw [if_pos (by rw [HS.out]; omega)]
        rw [hz] at CS
        have HS3 := hid (show ((s.size : Int)) = (l.length : Int) by rw [HS.out])
        clear hz hok hlt64 hno h4
        go_wp2_with fail
        refine (CS.out _).mono ?_
        rintro e _ ⟨rfl, rfl⟩
        go_wp2_with fail
        obtain ⟨q1, q2⟩ := two_set K0.out (.int .i64 4) (.int .i64 s.size)
        refine bodyPost_ret (by simp [results, Try.results9, go_sem, q1, q2]; rfl) rfl ?_
        refine ⟨none, 0, ?_, Own.nil _ _ _, (hx0.out.setCell (p := ⟨w.heap.size, 0, none⟩) (Nat.le_refl _) _).setCell (p := ⟨w.heap.size, 1, none⟩) (Nat.le_refl _) _⟩
        rw [HS3.out]
      · rw [if_neg h4] at hRe
        obtain ⟨n, hn⟩ : ∃ n, n = l.length / 4 * 3 + (l.length % 4 - 1) := ⟨_, rfl⟩
        have hz : sizeS (s.size : Int) = ((n : Int), true) := by rw [HS.out, sizeS_yes _ h4, hn]
        rw [hz] at CS
        obtain ⟨e1, e2⟩ := decS_bits (digs l) hlt64 (by rw [digs_len]; exact h4)
        rw [digs_len, ← hn] at e1 e2
        obtain ⟨D, hD⟩ : ∃ D, D = digs l := ⟨_, rfl⟩
        rw [← hD] at e1 e2 hRe
        have HD := hid hD
        have HE1 := hid e1
        have HE2 := hid e2
        have HRE := hid hRe
        have hnl : 8 * n ≤ 6 * s.size ∧ n ≤ 1000000 := by rw [HS.out]; omega
        obtain ⟨hn1, hn2⟩ := hnl
        have HOK := hid hok
        clear hz hok hlt64 hno h4 e1 e2 hRe hn hD
        go_wp2_with fail
        refine (CS.out _).mono ?_
        rintro e _ ⟨rfl, rfl⟩
        go_wp2_with (at_make; go_must (refine wpList_make_g (ok := isU8) (n := n) (m := n) rfl (.tmp 34) (.tmp 34) 22 rfl (w.heap.size + 1) 5 i0 (.int .u8 0) 1 Try.underlying22 hi hz0 hz1 hz2 rfl ⟨0, rfl⟩ .i64 .i64 rfl rfl rfl rfl (Nat.le_refl _) (by omega) (by unfold maxLen; omega) (by omega) ?_; intro w1 hown1 hext1 hsz1))
        rw [hW0] at hown1
        have O1 : Own w1 (w.heap.size + 1) 5 (some ⟨w.heap.size + 1, 0, none⟩) n (outL D n 0) := by
          rw [outL_zero]
          unfold Own
          rw [List.length_replicate, List.map_replicate]
          exact hown1
        have O1 := hid O1
        have X1 := hid hext1
        clear hown1 hext1 CS
        go_loopw [8] (fun i wr => ∃ t : Nat, t ≤ 6 * s.size ∧ i = .int .i64 t ∧ Own wr (w.heap.size + 1) 5 (some ⟨w.heap.size + 1, 0, none⟩) n (outL D n t) ∧ Blk wr w.heap.size 26 #[.int .i64 0, .int .i64 0] ∧ Below w.heap.size w wr ∧ (∀ u, 8 * n ≤ u → u < t → bitD D u = 0)) (fun i _ => 6 * s.size - (intOf i).toNat)
        case atStart => exact ⟨0, Nat.zero_le _, rfl, O1.out, K0.out.ext X1.out, Below.trans hx0.out (X1.out.mono (by omega)), by intro u _ h; omega⟩
        case round =>
          obtain ⟨t, ht, rfl, hO, hF, hB, hZ⟩ := hrel
          clear O1 X1 f0 f1 ff
          obtain ⟨f0, f1, ff⟩ := hF.two
          have HO := hid hO
          have HF := hid hF
          have HB := hid hB
          have HZ := hid hZ
          have hgl : w.heap.size + 1 < wr.heap.size ∨ n = 0 := by
            rcases Nat.eq_zero_or_pos n with h | h
            · exact .inr h
            · obtain ⟨g, hg, h2⟩ := hO.rd.lt (by rw [outL_len]; exact h)
              simp at hg; subst hg; exact .inl h2
          clear hO hF hB hZ
          by_cases hlt2 : t < 6 * s.size
          · obtain ⟨q, hq⟩ : ∃ q, q = t / 6 := ⟨_, rfl⟩
            obtain ⟨m, hm⟩ : ∃ m, m = t % 6 := ⟨_, rfl⟩
            have hqs : q < s.size := by omega
            obtain ⟨x, hx⟩ : ∃ x, s[q]'hqs = x := ⟨_, rfl⟩
            have hlx : l[q]? = some x := by rw [HG.out q hqs, hx]
            have hn64 := HOK.out q x (by rw [← HS.out]; exact hqs) hlx
            have hDq : D.getD q 0 = BM.numN x := by rw [HD.out]; simp [digs, List.getD, hlx]
            obtain ⟨d, hd⟩ : ∃ d, BM.numN x = d := ⟨_, rfl⟩
            have cn := hid (CN.out x)
            rw [numI_ok hn64, hd] at cn
            rw [hd] at hDq hn64
            have hqi : (t : Int) / 6 = (q : Int) := by omega
            have hmi : (t : Int) % 6 = (m : Int) := by omega
            have hm6 : m < 6 := by omega
            obtain ⟨s5, hs5⟩ : ∃ s5 : Nat, s5 = 5 - m := ⟨_, rfl⟩
            have hs5i : (5 : Int) - (m : Int) = (s5 : Int) := by omega
            obtain ⟨v, hv⟩ : ∃ v, d / 2 ^ s5 = v := ⟨_, rfl⟩
            have hsh : (d : Int) / 2 ^ s5 = (v : Int) := by rw [← hv]; simp
            have hv0 : (0 : Int) ≤ (v : Int) := by omega
            obtain ⟨xb, hxb⟩ : ∃ xb, xb = v % 2 := ⟨_, rfl⟩
            have hxbi : (v : Int) % 2 = (xb : Int) := by omega
            have hxb2 : xb < 2 := by omega
            have hbit : bitD D t = xb := by
              unfold bitD
              rw [← hq, ← hm, hDq, ← hs5, hv, hxb]
            have HBIT := hid hbit
            have y0 : decide ((t : Int) < 6 * (s.size : Int)) = true := by simp; omega
            have t0 : (0 : Int) ≤ (t : Int) := by omega
            by_cases hin : t < 8 * n
            · obtain ⟨q8, hq8⟩ : ∃ q, q = t / 8 := ⟨_, rfl⟩
              obtain ⟨m8, hm8⟩ : ∃ m, m = t % 8 := ⟨_, rfl⟩
              have hq8i : (t : Int) / 8 = (q8 : Int) := by omega
              have hm8i : (t : Int) % 8 = (m8 : Int) := by omega
              have hq8n : q8 < n := by omega
              have hm88 : m8 < 8 := by omega
              obtain ⟨s7, hs7⟩ : ∃ s7 : Nat, s7 = 7 - m8 := ⟨_, rfl⟩
              have hs7i : (7 : Int) - (m8 : Int) = (s7 : Int) := by omega
              obtain ⟨y, hy⟩ : ∃ y, xb * 2 ^ s7 = y := ⟨_, rfl⟩
              have hshl : (xb : Int) * 2 ^ s7 = (y : Int) := by rw [← hy]; simp
              obtain ⟨b1, b2, b3⟩ := bv_lt D q8 m8 (by omega)
              obtain ⟨old, hold⟩ : ∃ o, bv D q8 m8 = o := ⟨_, rfl⟩
              rw [hold] at b1 b2 b3
              have hp : 2 ^ (8 - m8) = 2 * 2 ^ s7 := by rw [hs7, ← Nat.pow_succ']; congr 1; omega
              have hyl : y < 2 ^ (8 - m8) := by
                rw [hp, ← hy]
                have := Nat.two_pow_pos s7
                rcases (show xb = 0 ∨ xb = 1 by omega) with h | h <;> rw [h] <;> omega
              have hpl : 2 ^ (8 - m8) ≤ 2 ^ 8 := Nat.pow_le_pow_right (by decide) (by omega)
              have hor := or_u8 (8 - m8) old y (by omega) b1 b2 hyl (by omega)
              have hnew : bv D q8 (m8 + 1) = old + y := by
                simp only [bv]
                rw [hold, show 8 * q8 + m8 = t from by omega, hbit, ← hs7, hy]
              have hsum : old + y < 256 := by omega
              have hog := outL_get D n t hin
              rw [← hq8, ← hm8, hold] at hog
              have hcell : wr.cell? ⟨w.heap.size + 1, q8, none⟩ = some (.int .u8 old) := by
                obtain ⟨b', o', h1, _, h3⟩ := HO.out.rd.at_ (k := q8) (by rw [outL_len]; exact hq8n)
                injection h1 with h1; injection h1 with h1 h2; subst h1; subst h2
                rw [hog] at h3
                rw [Nat.zero_add] at h3
                rw [h3]; simp; omega
              have hfz : wr.frozen? ⟨w.heap.size + 1, q8, none⟩ = false := OwnG.frozen HO.out rfl q8
              have hset := outL_set D n t hin
              rw [← hq8, ← hm8, hnew] at hset
              have hst := OwnG.set (k := q8) HO.out hq8n (v := u8v (UInt8.ofNat (old + y))) ⟨_, rfl⟩ rfl
              have hO2 : Own (wr.setCell ⟨w.heap.size + 1, q8, none⟩ (.int .u8 ((old + y : Nat) : Int))) (w.heap.size + 1) 5 (some ⟨w.heap.size + 1, 0, none⟩) n (outL D n (t + 1)) := by
                rw [← hset]
                unfold Own
                rw [List.length_set, List.map_set]
                have e : (u8v (UInt8.ofNat (old + y))) = .int .u8 ((old + y : Nat) : Int) := by show Value.int .u8 (((UInt8.ofNat (old + y)).toNat : Nat) : Int) = _; rw [BM.u8_of _ hsum]
                rw [e] at hst ⊢
                exact hst
              have HO2 := hid hO2
              have HF2 := hid (HF.out.far (p := ⟨w.heap.size + 1, q8, none⟩) (by simp) (.int .u8 ((old + y : Nat) : Int)))
              have HB2 := hid (HB.out.setCell (p := ⟨w.heap.size + 1, q8, none⟩) (by simp) (.int .u8 ((old + y : Nat) : Int)))
              have y1 : decide ((t : Int) < 8 * (n : Int)) = true := by simp; omega
              have z1 : (0 : Int) ≤ (q8 : Int) := by omega
              have z2 : (q8 : Int) < (n : Int) := by omega
              clear hq hm hlx hDq hd hs5 hv hxb hbit hq8 hm8 hs7 hy hold hp hnew hog hset hst hO2 hpl hyl b1 b3
              go_wp2_with fail
              refine (cn.out _).mono ?_
              rintro e _ ⟨rfl, rfl⟩
              go_wp2_with fail
              go_region
              all_goals
                go_wp2_with fail
                go_roundw
                case rel => exact ⟨t + 1, by omega, by go_num, HO2.out.ext (ext_drew _), HF2.out.drew, HB2.out.drew, by intro u h1 h2; exact HZ.out u h1 (by omega)⟩
                case measure => simp [intOf]; omega
            · have y1 : decide ((t : Int) < 8 * (n : Int)) = false := by simp; omega
              by_cases hx0 : xb = 0
              · have hZ2 : ∀ u, 8 * n ≤ u → u < t + 1 → bitD D u = 0 := by
                  intro u h1 h2
                  rcases Nat.lt_or_ge u t with h | h
                  · exact HZ.out u h1 h
                  · obtain rfl : u = t := by omega
                    rw [hbit, hx0]
                have HZ2 := hid hZ2
                have hsame := hid (outL_same D n t (by omega))
                subst hx0
                clear hq hm hlx hDq hd hs5 hv hbit hZ2 hxb
                go_wp2_with fail
                refine (cn.out _).mono ?_
                rintro e _ ⟨rfl, rfl⟩
                go_wp2_with fail
                go_roundw
                case rel => exact ⟨t + 1, by omega, by go_num, by rw [hsame.out]; exact HO.out, HF.out, HB.out, HZ2.out⟩
                case measure => simp [intOf]; omega
              · have hne : ((xb : Int) != 0) = true := by simp; omega
                have hRb : R = ([], 4, (l.length : Int) - 1) := by
                  rw [HRE.out, if_pos]
                  intro h0
                  have := HE2.out.1 h0 t (by omega) (by rw [← HS.out]; exact hlt2)
                  rw [HBIT.out] at this
                  exact hx0 this
                subst hRb
                have HS3 := hid (show ((s.size : Int)) = (l.length : Int) by rw [HS.out])
                clear hq hm hlx hDq hd hs5 hv hbit hxb hx0
                go_wp2_with fail
                refine (cn.out _).mono ?_
                rintro e _ ⟨rfl, rfl⟩
                go_wp2_with fail
                obtain ⟨q1, q2⟩ := two_set HF.out (.int .i64 4) (.int .i64 ((s.size : Int) - 1))
                refine bodyPost_ret (by simp [results, Try.results9, go_sem, q1, q2]; rfl) rfl ?_
                refine ⟨none, 0, ?_, Own.nil _ _ _, (HB.out.setCell (p := ⟨w.heap.size, 0, none⟩) (Nat.le_refl _) _).setCell (p := ⟨w.heap.size, 1, none⟩) (Nat.le_refl _) _⟩
                rw [HS3.out]
          · obtain rfl : t = 6 * s.size := by omega
            have h0 : (BM.decS 0 0 D).2.2 = 0 := HE2.out.2 fun u h1 h2 => HZ.out u h1 (by rw [HS.out]; exact h2)
            have hR2 : R = (fullL D n, 0, 0) := by rw [HRE.out, if_neg (by simpa using h0), HE1.out]
            subst hR2
            have hfull := outL_full D n (6 * s.size) hn1
            have ow := HO.out
            rw [hfull] at ow
            have hfl : (fullL D n).length = n := by simp [fullL]
            have OW := hid ow
            have HFL := hid hfl
            have y0 : decide (((6 * s.size : Nat) : Int) < 6 * (s.size : Int)) = false := by simp
            clear h0 hfull ow hfl
            go_wp2_with fail
            obtain ⟨q1, q2⟩ := two_set HF.out (.int .i64 0) (.int .i64 0)
            refine bodyPost_ret (by simp [results, Try.results9, go_sem, q1, q2]; rfl) rfl ?_
            refine ⟨some ⟨w.heap.size + 1, 0, none⟩, n, ?_, ((OW.out.far (p := ⟨w.heap.size, 0, none⟩) (by simp) _).far (p := ⟨w.heap.size, 1, none⟩) (by simp) _).mono (by omega), (HB.out.setCell (p := ⟨w.heap.size, 0, none⟩) (Nat.le_refl _) _).setCell (p := ⟨w.heap.size, 1, none⟩) (Nat.le_refl _) _⟩
            rw [HFL.out]
end Go.Proofs.Ytgcdpkjohaplcaa

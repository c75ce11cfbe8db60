/- BaseBack: bytes as text are read as they were; a text that is read is that of its bytes; of a text with another letter none is the same. -/
import Derived.Test.YtgcdpkjohaplcaaBasQ
import Derived.Test.YtgcdpkjohaplcaaKPick
import Derived.RegionTactic
import Derived.BigRegion
import Derived.ChangeAlike
namespace Go.Proofs.Ytgcdpkjohaplcaa
open Go.BK Go.RowKit
set_option linter.unusedVariables false
theorem size_to (n m : Int) (b : Bool) (h : sizeS n = (m, b)) (hn : 0 ≤ n ∧ n ≤ 1000000) (w : World) :
    Calls Try.prog 10 #[.int .i64 n] w fun e w' => e = .returned (.tuple #[.int .i64 m, .bool b]) ∧ w = w' := by
  have := size_any n w (by omega)
  rw [h] at this
  exact this
theorem decode_key (s : ByteArray) (W : World) (hs : s.size ≤ 10000) : Calls Try.prog 8 #[.string s] W fun e w' => ∃ A c O f a, e = .returned (.tuple #[.slice A O.length c, .agg #[.int .i64 f, .int .i64 a]]) ∧ Own w' W.heap.size 5 A c O ∧ Ext W w' ∧ (f = 0 ∧ encT O = s ∧ O.length ≤ 10000 ∨ f = 4 ∧ 0 ≤ a ∧ a ≤ s.size) := by
  obtain ⟨sl, hsl⟩ : ∃ sl, sl = s.data.toList := ⟨_, rfl⟩
  have hss : s = str sl := by rw [hsl, str_of]
  have hsz : sl.length = s.size := by rw [hss, str_size]
  rcases decR_cases sl with ⟨O, h1, h2⟩ | ⟨a, h1, h2, h3⟩
  · refine (decode_to hss h1 W (by omega)).mono ?_
    rintro e w' ⟨A, c, rfl, o, x⟩
    refine ⟨A, c, O, 0, 0, rfl, o, x, .inl ⟨rfl, by rw [encT_eq, h2, hss], ?_⟩⟩
    have := congrArg List.length h2
    rw [encL_len] at this
    omega
  · refine (decode_to hss h1 W (by omega)).mono ?_
    rintro e w' ⟨A, c, rfl, o, x⟩
    exact ⟨A, c, [], 4, a, rfl, o, x, .inr ⟨rfl, h2, by omega⟩⟩
theorem same_no {A B : Option Addr} {ca cb n m : Nat} {a b : List UInt8} {w : World} (ha : Rd w A ca a) (hb : Rd w B cb b) (hn : a.length = n) (hm : b.length = m) (hne : a ≠ b) :
    Calls Try.prog 14 #[.slice A n ca, .slice B m cb] w fun e w' => e = .returned (.bool false) ∧ w = w' := by
  subst hn; subst hm
  refine (same_bytes ha hb).mono ?_
  rintro e w' ⟨rfl, hw⟩
  exact ⟨ret_bool (by simpa using hne), hw⟩
theorem toList_inj {a b : ByteArray} (h : a.toList = b.toList) : a = b := by
  rw [ByteArray.toList_eq, ByteArray.toList_eq] at h
  cases a; cases b
  congr 1
  exact Array.ext' h
set_option maxHeartbeats 8000000 in
set_option maxRecDepth 100000 in
theorem back_walk {B : Option Addr} {cb : Nat} {b : List UInt8} (s : ByteArray) (at_ c : Int) (w : World) (hb : Rd w B cb b) (hs : s.size ≤ maxLen) (ha : -9223372036854775808 ≤ at_ ∧ at_ ≤ 9223372036854775807) (hc : 0 ≤ c ∧ c ≤ 255) :
    Calls Try.prog 4 #[.slice B b.length cb, .string s, .int .i64 at_, .int .u8 c] w fun e w' => e = .returned (.bool true) ∧ Below w.heap.size w w' := by
  obtain ⟨cu, rfl⟩ : ∃ cu : UInt8, c = cu.toNat := ⟨UInt8.ofNat c.toNat, by simp; omega⟩
  have lb := hb.n_le
  unfold maxLen at hs
  by_cases h1 : 3000 < b.length
  · have q1 : decide ((3000 : Int) < (b.length : Int)) = true := by simp; omega
    clear hb
    go_enter Try.func4, Try.ntmps4
    go_wp2_with fail
    refine (awake_yes _).mono ?_
    rintro e w1 ⟨rfl, x1⟩
    go_wp2_with fail
    go_ret
    exact ⟨rfl, x1⟩
  by_cases h2 : 3000 < s.size
  · have q1 : decide ((3000 : Int) < (b.length : Int)) = false := by simp; omega
    have q2 : decide ((3000 : Int) < (s.size : Int)) = true := by simp; omega
    clear hb
    go_enter Try.func4, Try.ntmps4
    go_wp2_with fail
    refine (awake_yes _).mono ?_
    rintro e w1 ⟨rfl, x1⟩
    go_wp2_with fail
    go_ret
    exact ⟨rfl, x1⟩
  have q1 : decide ((3000 : Int) < (b.length : Int)) = false := by simp; omega
  have q2 : decide ((3000 : Int) < (s.size : Int)) = false := by simp; omega
  obtain ⟨t, ht⟩ : ∃ t, encT b = t := ⟨_, rfl⟩
  have htz : t.size = (encL b).length := by rw [← ht, encT_eq, str_size]
  have htl : t.size ≤ 4001 := by rw [htz, encL_len]; omega
  have HT := hid ht
  have CE := hid (fun W (h : Rd W B cb b) => encode_to h rfl ht (by omega))
  have CD := hid (fun W => decode_to (s := t) (by rw [← ht, encT_eq]) (decR_enc b) W (by rw [← htz]; omega))
  have CS := hid (fun W => size_to (t.size : Int) _ _ (sizeS_enc b _ (by rw [htz])) (by omega) W)
  obtain ⟨sl, hsl⟩ : ∃ sl, sl = s.data.toList := ⟨_, rfl⟩
  have hss : s = str sl := by rw [hsl, str_of]
  have hsz : sl.length = s.size := by rw [hss, str_size]
  have HB := hid hb
  have CK := hid (fun W => decode_key s W (by omega))
  clear hb ht htz hss hsz hsl
  go_enter Try.func4, Try.ntmps4
  go_wp2_with fail
  refine (awake_yes _).mono ?_
  rintro e w1 ⟨rfl, x1⟩
  go_wp2_with fail
  refine (CE.out _ (HB.out.ext x1)).mono ?_
  rintro e w2 ⟨rfl, x2⟩
  go_wp2_with fail
  refine (CD.out _).mono ?_
  rintro e w3 ⟨A3, c3, rfl, o3, x3⟩
  have X3 := hid (ext_trans (ext_trans x1 x2) x3)
  have K3 := Blk.new w3 26 #[.int .i64 0, .int .i64 0]
  have o3 := hid (o3.ext (ext_alloc w3 (.cells #[.int .i64 0, .int .i64 0] 26)))
  have rb3 := hid ((HB.out.ext X3.out).ext (ext_alloc w3 (.cells #[.int .i64 0, .int .i64 0] 26)))
  have X3' := hid (ext_trans X3.out (ext_alloc w3 (.cells #[.int .i64 0, .int .i64 0] 26)))
  clear x1 x2 x3
  go_wp2_with fail
  refine (CS.out _).mono ?_
  rintro e _ ⟨rfl, rfl⟩
  go_wp2_with fail
  refine (same_yes o3.out.rd rb3.out rfl).mono ?_
  rintro e _ ⟨rfl, rfl⟩
  go_wp2_with fail
  refine (CK.out _).mono ?_
  rintro e w4 ⟨A4, c4, O4, f4, a4, rfl, o4, x4, hk⟩
  have X4 := hid (ext_trans X3'.out x4)
  have K4 := Blk.new w4 26 #[.int .i64 f4, .int .i64 a4]
  have r4 := hid (o4.ext (ext_alloc w4 (.cells #[.int .i64 f4, .int .i64 a4] 26))).rd
  have X4' := hid (ext_trans X4.out (ext_alloc w4 (.cells #[.int .i64 f4, .int .i64 a4] 26)))
  clear x4 K3
  rcases hk with ⟨rfl, hk1, hk2⟩ | ⟨rfl, hk1, hk2⟩
  · have C5 := hid (fun W (h : Rd W A4 c4 O4) => encode_to h rfl hk1 (by omega))
    clear hk1
    go_wp2_with fail
    refine (C5.out _ r4.out).mono ?_
    rintro e w5 ⟨rfl, x5⟩
    have X5 := hid (ext_trans X4'.out x5)
    obtain ⟨p1, p2, _⟩ := (K4.ext x5).two
    clear x5 C5
    go_wp2_with fail
    · go_ret
      exact ⟨rfl, X5.out⟩
    · have h0 : 0 < t.size := by
        rcases Nat.eq_zero_or_pos t.size with h | h
        · exfalso
          have : t.toList.isEmpty = false := by assumption
          have e : t.toList = [] := List.eq_nil_of_length_eq_zero (by rw [ByteArray.toList_eq, Array.length_toList]; exact h)
          rw [e] at this; cases this
        · exact h
      have hpr := pick_range at_ (t.size : Int) (by omega)
      obtain ⟨k, hk⟩ : ∃ k : Nat, (k : Int) = pick at_ t.size := ⟨(pick at_ t.size).toNat, by omega⟩
      rw [← hk] at hpr
      obtain ⟨hp1, hp2⟩ := hpr
      have hk3 : k < t.size := by omega
      have hk4 : k ≤ t.size := by omega
      have hk5 : k + 1 ≤ t.size := by omega
      have cp := hid (fun W => pick_any at_ (t.size : Int) W ha (by omega))
      rw [← hk] at cp
      clear hk
      refine (cp.out _).mono ?_
      rintro e _ ⟨rfl, rfl⟩
      have wr1 : IntKind.i64.wrap ((k : Int) + 1) = (k : Int) + 1 := IntWalk.i64_in _ (by omega)
      have hcv : (convert 22 9 (.slice (some ⟨w5.heap.size, 0, none⟩) 1 1)).run Try.prog (((w5).alloc (.cells #[.int .u8 cu.toNat] 5)).drew) = .ok (.string (str [cu])) (((w5).alloc (.cells #[.int .u8 cu.toNat] 5)).drew) :=
        run_convert_rd (l := [cu]) ((Own.lit_at (w5) _ [cu] 5 _ (by simp) rfl (by simp [maxLen])).rd.ext (ext_drew _)) 22 5 Try.underlying22 Try.underlying5 9 Try.underlying9
      obtain ⟨odd, hodd⟩ : ∃ odd, t.extract 0 k ++ str [cu] ++ t.extract (k + 1) t.size = odd := ⟨_, rfl⟩
      have hoz : odd.size ≤ 10000 := by rw [← hodd]; simp [ByteArray.size_append, ByteArray.size_extract, str_size]; omega
      have z1 : (t.extract 0 k).size ≤ 10000 := by simp [ByteArray.size_extract]; omega
      have z2 : (t.extract (k + 1) t.size).size ≤ 10000 := by simp [ByteArray.size_extract]; omega
      have z3 : (str [cu]).size ≤ 10000 := by rw [str_size]; simp
      have z4 : (t.extract 0 k ++ str [cu]).size ≤ 20000 := by simp [ByteArray.size_append]; omega
      have C6 := hid (fun W => decode_key odd W hoz)
      clear hoz
      go_wp2_with fail
      go_region
      all_goals
        go_wp2_with fail
        refine (C6.out _).mono ?_
        rintro e w6 ⟨A6, c6, O6, f6, a6, rfl, o6, x6, hk6⟩
        have X6 := hid (ext_trans (ext_trans (X5.out) (Below.drew (ext_alloc _ _))) x6)
        have X6' := hid (ext_trans X6.out (ext_alloc w6 (.cells #[.int .i64 f6, .int .i64 a6] 26)))
        have r6 := hid (o6.ext (ext_alloc w6 (.cells #[.int .i64 f6, .int .i64 a6] 26))).rd
        have rb6 := hid (HB.out.ext X6'.out)
        clear x6 o6
        by_cases hot : odd = t
        · subst hot
          clear hodd
          rcases hk6 with ⟨rfl, hk1, hk2⟩ | ⟨rfl, hk1, hk2⟩
          all_goals
            try clear hk1
            go_wp2_with fail
            go_ret
            exact ⟨ret_bool (by simp), X6'.out⟩
        · have hne : (odd.toList == t.toList) = false := by
            rw [Bool.eq_false_iff]; intro h; exact hot (toList_inj (by simpa using h))
          clear hodd
          rcases hk6 with ⟨rfl, hk1, hk2⟩ | ⟨rfl, hk1, hk2⟩
          · have CN := hid (same_no r6.out rb6.out rfl rfl (fun h => hot (by rw [← hk1, h, HT.out])))
            clear hk1 hot
            go_wp2_with fail
            refine CN.out.mono ?_
            rintro e _ ⟨rfl, rfl⟩
            go_wp2_with fail
            go_ret
            exact ⟨rfl, X6'.out⟩
          · clear hot
            go_wp2_with fail
            go_ret
            exact ⟨rfl, X6'.out⟩
  · go_wp2_with fail
    · go_ret
      exact ⟨rfl, X4'.out⟩
    · have h0 : 0 < t.size := by
        rcases Nat.eq_zero_or_pos t.size with h | h
        · exfalso
          have : t.toList.isEmpty = false := by assumption
          have e : t.toList = [] := List.eq_nil_of_length_eq_zero (by rw [ByteArray.toList_eq, Array.length_toList]; exact h)
          rw [e] at this; cases this
        · exact h
      have hpr := pick_range at_ (t.size : Int) (by omega)
      obtain ⟨k, hk⟩ : ∃ k : Nat, (k : Int) = pick at_ t.size := ⟨(pick at_ t.size).toNat, by omega⟩
      rw [← hk] at hpr
      obtain ⟨hp1, hp2⟩ := hpr
      have hk3 : k < t.size := by omega
      have hk4 : k ≤ t.size := by omega
      have hk5 : k + 1 ≤ t.size := by omega
      have cp := hid (fun W => pick_any at_ (t.size : Int) W ha (by omega))
      rw [← hk] at cp
      clear hk
      refine (cp.out _).mono ?_
      rintro e _ ⟨rfl, rfl⟩
      have wr1 : IntKind.i64.wrap ((k : Int) + 1) = (k : Int) + 1 := IntWalk.i64_in _ (by omega)
      have hcv : (convert 22 9 (.slice (some ⟨w4.heap.size + 1, 0, none⟩) 1 1)).run Try.prog (((w4.alloc (.cells #[.int .i64 4, .int .i64 a4] 26)).alloc (.cells #[.int .u8 cu.toNat] 5)).drew) = .ok (.string (str [cu])) (((w4.alloc (.cells #[.int .i64 4, .int .i64 a4] 26)).alloc (.cells #[.int .u8 cu.toNat] 5)).drew) :=
        run_convert_rd (l := [cu]) ((Own.lit_at (w4.alloc (.cells #[.int .i64 4, .int .i64 a4] 26)) _ [cu] 5 _ (by simp) rfl (by simp [maxLen])).rd.ext (ext_drew _)) 22 5 Try.underlying22 Try.underlying5 9 Try.underlying9
      obtain ⟨odd, hodd⟩ : ∃ odd, t.extract 0 k ++ str [cu] ++ t.extract (k + 1) t.size = odd := ⟨_, rfl⟩
      have hoz : odd.size ≤ 10000 := by rw [← hodd]; simp [ByteArray.size_append, ByteArray.size_extract, str_size]; omega
      have z1 : (t.extract 0 k).size ≤ 10000 := by simp [ByteArray.size_extract]; omega
      have z2 : (t.extract (k + 1) t.size).size ≤ 10000 := by simp [ByteArray.size_extract]; omega
      have z3 : (str [cu]).size ≤ 10000 := by rw [str_size]; simp
      have z4 : (t.extract 0 k ++ str [cu]).size ≤ 20000 := by simp [ByteArray.size_append]; omega
      have C6 := hid (fun W => decode_key odd W hoz)
      clear hoz
      go_wp2_with fail
      go_region
      all_goals
        go_wp2_with fail
        refine (C6.out _).mono ?_
        rintro e w6 ⟨A6, c6, O6, f6, a6, rfl, o6, x6, hk6⟩
        have X6 := hid (ext_trans (ext_trans (X4'.out) (Below.drew (ext_alloc _ _))) x6)
        have X6' := hid (ext_trans X6.out (ext_alloc w6 (.cells #[.int .i64 f6, .int .i64 a6] 26)))
        have r6 := hid (o6.ext (ext_alloc w6 (.cells #[.int .i64 f6, .int .i64 a6] 26))).rd
        have rb6 := hid (HB.out.ext X6'.out)
        clear x6 o6
        by_cases hot : odd = t
        · subst hot
          clear hodd
          rcases hk6 with ⟨rfl, hk1, hk2⟩ | ⟨rfl, hk1, hk2⟩
          all_goals
            try clear hk1
            go_wp2_with fail
            go_ret
            exact ⟨ret_bool (by simp), X6'.out⟩
        · have hne : (odd.toList == t.toList) = false := by
            rw [Bool.eq_false_iff]; intro h; exact hot (toList_inj (by simpa using h))
          clear hodd
          rcases hk6 with ⟨rfl, hk1, hk2⟩ | ⟨rfl, hk1, hk2⟩
          · have CN := hid (same_no r6.out rb6.out rfl rfl (fun h => hot (by rw [← hk1, h, HT.out])))
            clear hk1 hot
            go_wp2_with fail
            refine CN.out.mono ?_
            rintro e _ ⟨rfl, rfl⟩
            go_wp2_with fail
            go_ret
            exact ⟨rfl, X6'.out⟩
          · clear hot
            go_wp2_with fail
            go_ret
            exact ⟨rfl, X6'.out⟩
end Go.Proofs.Ytgcdpkjohaplcaa

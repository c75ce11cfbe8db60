/- Layer 29: ScriptBehind's walk. -/
import Derived.Test.YtholjbnggnfapaaScrN
import Derived.Test.YtholjbnggnfapaaKitE
namespace Go.Proofs.Ytholjbnggnfapaa
open Go.BK Go.BK.SC Go.RowKit Go.Maps
set_option linter.unusedVariables false
set_option linter.unusedSimpArgs false
theorem own_none (w : World) (e : TypeId) (base size : Nat) (hb : base ≤ w.heap.size) : OwnG isOne (w.alloc (.cells #[] e)) base e size (some ⟨w.heap.size, 0, none⟩) 0 0 [] := by
  have := OwnG.new (ok := isOne) (base := base) (size := size) (e := e) w [] 0 0 hb (by simp) (Nat.le_refl _) (by simp [maxLen]) (by simp)
  simpa using this
set_option maxHeartbeats 4000000 in
set_option maxRecDepth 100000 in
theorem behind_walk {A B : Option Addr} {ca cb : Nat} {la lb : List UInt8} (at_ : Int) (w : World) (hA : Rd w A ca la) (hB : Rd w B cb lb) (hat : -9223372036854775808 ≤ at_ ∧ at_ ≤ 9223372036854775807) :
    Calls Try.prog 5 #[.slice A la.length ca, .slice B lb.length cb, .int .i64 at_] w fun r w' => r = .returned (.bool true) ∧ Below w.heap.size w w' := by
  have hna := hA.n_le
  have hnb := hB.n_le
  have HA := hid hA
  have HB := hid hB
  clear hA hB
  by_cases hbig : 1000 < la.length ∨ 1000 < lb.length
  · by_cases h1 : 1000 < la.length
    · have q1 : (1000 : Int) < (la.length : Int) := by omega
      go_enter Try.func5, Try.ntmps5
      go_wp2_with fail
      refine (awake_in w).mono ?_
      rintro r w1 ⟨rfl, x1⟩
      go_wp2_with fail
      go_ret
      exact ⟨rfl, x1⟩
    · have q1 : ¬ (1000 : Int) < (la.length : Int) := by omega
      have q2 : (1000 : Int) < (lb.length : Int) := by omega
      go_enter Try.func5, Try.ntmps5
      go_wp2_with fail
      refine (awake_in w).mono ?_
      rintro r w1 ⟨rfl, x1⟩
      go_wp2_with fail
      go_ret
      exact ⟨rfl, x1⟩
  · have q1 : ¬ (1000 : Int) < (la.length : Int) := by omega
    have q2 : ¬ (1000 : Int) < (lb.length : Int) := by omega
    have hla : la.length ≤ 1000 := by omega
    have hlb : lb.length ≤ 1000 := by omega
    obtain ⟨na, hna'⟩ : ∃ na, la.length = na := ⟨_, rfl⟩
    obtain ⟨nb, hnb'⟩ : ∃ nb, lb.length = nb := ⟨_, rfl⟩
    have CA := hid (fun W (x : Ext w W) => events_in (RdG.ext HA.out x))
    have CB := hid (fun W (x : Ext w W) => events_in (RdG.ext HB.out x))
    have CP := hid (fun W => pick_any at_ ((nb + 1 : Nat) : Int) W hat (by omega))
    obtain ⟨k, hk, hkn⟩ : ∃ k : Nat, pick at_ ((nb + 1 : Nat) : Int) = (k : Int) ∧ k ≤ nb := by
      have := pick_range at_ ((nb + 1 : Nat) : Int) (by omega)
      exact ⟨(pick at_ ((nb + 1 : Nat) : Int)).toNat, by omega, by omega⟩
    rw [hk] at CP
    rw [hna'] at CA q1 hla ⊢
    rw [hnb'] at CB q2 hlb ⊢
    have HNA := hid hna'
    have HNB := hid hnb'
    clear hbig hk hna' hnb' hna hnb hat
    go_enter Try.func5, Try.ntmps5
    go_wp2_with fail
    refine (awake_in w).mono ?_
    rintro r w1 ⟨rfl, x1⟩
    have X1 := hid x1
    clear x1
    go_wp2_with fail
    refine (CA.out w1 X1.out).mono ?_
    rintro r w2 ⟨A2, c2, M2, rfl, l2, e2, x2⟩
    have L2 := hid l2.rd
    have E2 := hid e2
    have X2 := hid (ext_trans X1.out x2)
    clear l2 e2 x2
    go_wp2_with fail
    refine (CB.out w2 X2.out).mono ?_
    rintro r w3 ⟨A3, c3, M3, rfl, l3, e3, x3⟩
    have L3 := hid l3.rd
    have E3 := hid e3
    have L2 := hid (L2.out.ext x3)
    have X3 := hid (ext_trans X2.out x3)
    have hm2 : M2.length ≤ na := by
      have h1 := (events_len 4096 la).1
      have h2 := congrArg List.length E2.out
      rw [List.length_map] at h2
      have := HNA.out
      omega
    have hm3 : M3.length ≤ nb := by
      have h1 := (events_len 4096 lb).1
      have h2 := congrArg List.length E3.out
      rw [List.length_map] at h2
      have := HNB.out
      omega
    clear l3 e3 x3
    go_wp2_with fail
    refine (bytes_in L2.out (wf_of E2.out)).mono ?_
    intro r w4 h4
    rw [BytD_eq (bytes_ok E2.out (Nat.le_refl _))] at h4
    obtain ⟨O4, c4, rfl, o4, x4⟩ := h4
    obtain ⟨X, hX⟩ : ∃ X, (M2.map Em.e).flatMap layS = X := ⟨_, rfl⟩
    rw [hX] at o4 ⊢
    have hXl : X.length ≤ 1000 * 12301 := by
      rw [← hX]
      have h1 := flat_len (M2.map Em.e) (fun e he => by rw [E2.out] at he; exact events_fit _ _ e he)
      rw [List.length_map] at h1
      have h2 := Nat.mul_le_mul_right 12301 (Nat.le_trans hm2 hla)
      omega
    have HX := hid hX
    have O4 := hid o4
    have L2 := hid (L2.out.ext x4)
    have L3 := hid (L3.out.ext x4)
    have X4 := hid (ext_trans X3.out x4)
    clear o4 x4 hX
    go_wp2_with fail
    refine (copy_bytes (OwnG.rd O4.out) (by omega)).mono ?_
    rintro r w5 ⟨A5, c5, rfl, o5, x5⟩
    have L24 := L2
    have L34 := L3
    have X5 := hid (ext_trans X4.out x5)
    have X45 := hid x5
    obtain ⟨xl, hxl⟩ : ∃ xl, X.length = xl := ⟨_, rfl⟩
    have ow : OwnG isU8 w5 w4.heap.size 5 1 A5 xl c5 (X.map u8v) := by rw [← hxl]; exact o5
    have rb5 : RdG w5 1 B nb cb (lb.map u8v) := by have := RdG.ext HB.out X5.out; rw [HNB.out] at this; exact this
    have hz5 : w4.heap.size ≤ w5.heap.size := x5.size
    rw [hxl] at hXl ⊢
    have HXL := hid hxl
    obtain ⟨i0, hi0, hz0, hz1, hz2⟩ := info_parts info_u8
    clear o5 x5 hxl
    go_wp2_with (first | (at_builtin; go_must (refine wpList_append_g (ok := isU8) rfl (.tmp 37) (.tmp 38) 22 rfl w4.heap.size 5 i0 (.int .u8 0) 1 1 Try.underlying22 hi0 hz0 hz1 hz2 rfl (by decide) (by simp [Value.cells]; exact ⟨0, rfl⟩) (fun _ h => h.one) rfl ow rfl rb5 (isU8_map _) (by omega) (by unfold maxLen; omega) hz5 ?_; intro A6 c6 w6 o6 g6 n6; have O6 := hid o6; have X6 : Hid (Ext w4 w6) := hid (below_of_grown X45.out hz5 g6 (fun g hg => (ow.lt g hg).1)); clear o6 g6 n6)))
    have L2 := hid (L24.out.ext X6.out)
    have L3 := hid (L34.out.ext X6.out)
    have X6W := hid (ext_trans X4.out X6.out)
    have r6 : Rd w6 A6 c6 (X ++ lb) := by
      unfold Rd
      rw [List.length_append, List.map_append, HXL.out, HNB.out]
      exact OwnG.rd O6.out
    have CE := events_in r6
    rw [List.length_append, HXL.out, HNB.out] at CE
    have CE := hid CE
    clear r6
    refine CE.out.mono ?_
    rintro r w7 ⟨A7, c7, M7, rfl, l7, e7, x7⟩
    have L7 := hid l7.rd
    have e7' : M7.map Em.e = (M2 ++ M3).map Em.e := by
      rw [e7, List.map_append, E2.out, E3.out, ← HX.out, E2.out, events_lay _ (events_fit 4096 la) 4096 lb (events_len 4096 la).2]
      congr 1
      have h1 := (events_len 4096 la).1
      have h2 := HNA.out
      have h3 := HNB.out
      exact events_fuel _ _ _ (by omega) (by omega)
    have E7 := hid e7'
    have L2 := hid (L2.out.ext x7)
    have L3 := hid (L3.out.ext x7)
    have X7 := hid (ext_trans X6W.out x7)
    obtain ⟨i1, hi1, hy0, hy1, hy2⟩ := info_parts info_ev
    have xe := ext_alloc w7 (.cells #[] 34)
    have d8 := own_none w7 34 w7.heap.size 7 (Nat.le_refl _)
    have s8 := L2.out.1.ext xe
    obtain ⟨m2, hm2'⟩ : ∃ m2, M2.length = m2 := ⟨_, rfl⟩
    obtain ⟨m3, hm3'⟩ : ∃ m3, M3.length = m3 := ⟨_, rfl⟩
    rw [hm2'] at s8 hm2 ⊢
    rw [hm3'] at hm3 ⊢
    have s8b : RdG w7 7 A3 m3 c3 (cellsL M3) := by rw [← hm3']; exact L3.out.1
    have HM2 := hid hm2'
    have HM3 := hid hm3'
    clear l7 e7 e7' x7 hm2' hm3' ow rb5
    go_wp2_with (first | (at_builtin; (with_reducible show wpList _ _ _ (⟨some 44, _, _, _, _, _⟩ :: _) _ _); go_must (refine wpList_append_g (ok := isOne) rfl (.tmp 42) (.tmp 43) 24 rfl w7.heap.size 34 i1 (.agg #[.int .i64 0, .int .i64 0, .int .i64 0, .int .i64 0, .int .i64 0, .int .i64 0, .slice none 0 0]) 7 72 Try.underlying24 hi1 hy0 hy1 hy2 rfl (by decide) zero_seven (fun _ h => h) rfl d8 rfl s8 (cellsL_one M2) (by omega) (by unfold maxLen; omega) (by simp) ?_; intro A8 c8 w8 o8 g8 n8; have X78 : Ext w7 w8 := below_of_grown xe (by simp) g8 (fun g hg => (by simp at hg; omega)); have s8c := s8b.ext X78; have hz8 : w7.heap.size ≤ w8.heap.size := X78.size; simp only [Nat.zero_add, List.nil_append] at o8 ⊢; clear g8 n8 d8 s8)) | (at_builtin; (with_reducible show wpList _ _ _ (⟨some 46, _, _, _, _, _⟩ :: _) _ _); go_must (refine wpList_append_g (ok := isOne) rfl (.tmp 44) (.tmp 45) 24 rfl w7.heap.size 34 i1 (.agg #[.int .i64 0, .int .i64 0, .int .i64 0, .int .i64 0, .int .i64 0, .int .i64 0, .slice none 0 0]) 7 72 Try.underlying24 hi1 hy0 hy1 hy2 rfl (by decide) zero_seven (fun _ h => h) rfl o8 rfl s8c (cellsL_one M3) (by omega) (by unfold maxLen; omega) hz8 ?_; intro A9 c9 w9 o9 g9 n9; have X79 : Hid (Ext w7 w9) := hid (below_of_grown X78 hz8 g9 (fun g hg => (o8.lt g hg).1)); have O9 := hid o9; clear o9 g9 n9 o8 s8c X78 xe s8b)))
    have L2 := hid (L2.out.ext X79.out)
    have L3 := hid (L3.out.ext X79.out)
    have L9 : Hid (EvR w9 A9 c9 (M2 ++ M3)) := hid ⟨(by
      rw [List.length_append, HM2.out, HM3.out, cellsL_append]
      exact O9.out.rd), fun m hm => (by
      rw [List.mem_append] at hm
      rcases hm with hm | hm
      · exact L2.out.2 m hm
      · exact L3.out.2 m hm)⟩
    refine (same_events_n (L7.out.ext X79.out) L9.out E7.out rfl (by rw [List.length_append, HM2.out, HM3.out])).mono ?_
    rintro r w10 ⟨rfl, x10⟩
    have L3 := hid (L3.out.ext x10)
    have X10 := hid (ext_trans X7.out (ext_trans X79.out x10))
    clear x10
    have hk1 : (k : Int) ≤ (cb : Int) := by have h1 := HB.out.2.1; have h2 := HNB.out; omega
    have hcut := cap_cut B cb
    go_wp2_with fail
    refine (CP.out _).mono ?_
    rintro r _ ⟨rfl, rfl⟩
    have rk : Rd w10 B cb (lb.take k) := rd_take (RdG.ext HB.out X10.out) k (by rw [HNB.out]; exact hkn)
    have hkl : (lb.take k).length = k := by rw [List.length_take, HNB.out]; omega
    have CK := events_in rk
    rw [hkl] at CK
    have CK := hid CK
    clear rk hkl
    go_wp2_with fail
    refine CK.out.mono ?_
    rintro r w11 ⟨A1, c1, M1, rfl, l1, e1, x11⟩
    have L1 := hid l1.rd
    have L3 := hid (L3.out.ext x11)
    have X11 := hid (ext_trans X10.out x11)
    have hcases := events_cut 4096 (lb.take k) (lb.drop k)
    rw [List.take_append_drop, ← e1, ← E3.out] at hcases
    clear l1 e1 x11 hcut
    rcases hcases with h0 | ⟨D, ea, eb, rest, h1, h2, h3⟩
    · obtain rfl : M1 = [] := by simpa using h0
      simp only [List.length_nil]
      have hm30 : (0 : Int) ≤ (m3 : Int) := by omega
      have C0 := hid (fun W (x : Ext w11 W) => same_events_n (M2 := []) (EvR.ext (L1.out.take 0 (by simp)) x) (EvR.ext (L3.out.take 0 (by simp)) x) rfl rfl rfl)
      have hc1 := cap_cut A1 c1
      have hc3 := cap_cut A3 c3
      clear h0
      go_upto_region 13 with (fail)
      refine wp_region_noPanic ?_
      refine region_E (S := fun _ => True) 35 (by kernel_rfl) (by kernel_rfl) (by kernel_rfl) ?_
      refine EG_take 0 (v := ?v1) (by simp only [List.getElem?_toArray, List.getElem?_cons_succ, List.getElem?_cons_zero]; rfl) (by kernel_rfl) (by kernel_rfl) (by decide) (fun _ _ _ h => h) (Or.inl ⟨by rfl, ?hy1⟩) (trivial) ?rest1
      case hy1 => intro W hSW; clear hSW; go_simp <;> with_reducible rfl
      try simp only [Act.put, List.setIfInBounds_toArray, List.set_cons_zero, List.set_cons_succ]
      refine EG_take 1 (v := ?v2) (by simp only [List.getElem?_toArray, List.getElem?_cons_succ, List.getElem?_cons_zero]; rfl) (by kernel_rfl) (by kernel_rfl) (by decide) (fun _ _ _ h => h) (Or.inl ⟨by rfl, ?hy2⟩) (trivial) ?rest2
      case hy2 => intro W hSW; clear hSW; go_simp <;> with_reducible rfl
      try simp only [Act.put, List.setIfInBounds_toArray, List.set_cons_zero, List.set_cons_succ]
      refine EG_take 2 (v := ?v3) (by simp only [List.getElem?_toArray, List.getElem?_cons_succ, List.getElem?_cons_zero]; rfl) (by kernel_rfl) (by kernel_rfl) (by decide) (fun _ _ _ h => h) (Or.inl ⟨by rfl, ?hy3⟩) (trivial) ?rest3
      case hy3 => intro W hSW; clear hSW; go_simp <;> with_reducible rfl
      try simp only [Act.put, List.setIfInBounds_toArray, List.set_cons_zero, List.set_cons_succ]
      refine EG_take 3 (v := ?v4) (by simp only [List.getElem?_toArray, List.getElem?_cons_succ, List.getElem?_cons_zero]; rfl) (by kernel_rfl) (by kernel_rfl) (by decide) (fun _ _ _ h => h) (Or.inl ⟨by rfl, ?hy4⟩) (trivial) ?rest4
      case hy4 => intro W hSW; clear hSW; go_simp <;> with_reducible rfl
      try simp only [Act.put, List.setIfInBounds_toArray, List.set_cons_zero, List.set_cons_succ]
      refine EG_take 4 (v := ?v5) (by simp only [List.getElem?_toArray, List.getElem?_cons_succ, List.getElem?_cons_zero]; rfl) (by kernel_rfl) (by kernel_rfl) (by decide) (fun _ _ _ h => h) (Or.inl ⟨by rfl, ?hy5⟩) (trivial) ?rest5
      case hy5 => intro W hSW; clear hSW; go_simp <;> with_reducible rfl
      try simp only [Act.put, List.setIfInBounds_toArray, List.set_cons_zero, List.set_cons_succ]
      refine EG_take 5 (v := ?v6) (by simp only [List.getElem?_toArray, List.getElem?_cons_succ, List.getElem?_cons_zero]; rfl) (by kernel_rfl) (by kernel_rfl) (by decide) (fun _ _ _ h => h) (Or.inl ⟨by rfl, ?hy6⟩) (trivial) ?rest6
      case hy6 => intro W hSW; clear hSW; go_simp <;> with_reducible rfl
      try simp only [Act.put, List.setIfInBounds_toArray, List.set_cons_zero, List.set_cons_succ]
      refine EG_take 6 (v := ?v7) (by simp only [List.getElem?_toArray, List.getElem?_cons_succ, List.getElem?_cons_zero]; rfl) (by kernel_rfl) (by kernel_rfl) (by decide) (fun _ _ _ h => h) (Or.inl ⟨by rfl, ?hy7⟩) (trivial) ?rest7
      case hy7 => intro W hSW; clear hSW; go_simp <;> with_reducible rfl
      try simp only [Act.put, List.setIfInBounds_toArray, List.set_cons_zero, List.set_cons_succ]
      refine EG_take 7 (v := ?v8) (by simp only [List.getElem?_toArray, List.getElem?_cons_succ, List.getElem?_cons_zero]; rfl) (by kernel_rfl) (by kernel_rfl) (by decide) (fun _ _ _ h => h) (Or.inl ⟨by rfl, ?hy8⟩) (trivial) ?rest8
      case hy8 => intro W hSW; clear hSW; go_simp <;> with_reducible rfl
      try simp only [Act.put, List.setIfInBounds_toArray, List.set_cons_zero, List.set_cons_succ]
      refine EG_take 8 (v := ?v9) (by simp only [List.getElem?_toArray, List.getElem?_cons_succ, List.getElem?_cons_zero]; rfl) (by kernel_rfl) (by kernel_rfl) (by decide) (fun _ _ _ h => h) (Or.inl ⟨by rfl, ?hy9⟩) (trivial) ?rest9
      case hy9 => intro W hSW; clear hSW; go_simp <;> with_reducible rfl
      try simp only [Act.put, List.setIfInBounds_toArray, List.set_cons_zero, List.set_cons_succ]
      refine EG_take 9 (v := ?v10) (by simp only [List.getElem?_toArray, List.getElem?_cons_succ, List.getElem?_cons_zero]; rfl) (by kernel_rfl) (by kernel_rfl) (by decide) (fun _ _ _ h => h) (Or.inl ⟨by rfl, ?hy10⟩) (trivial) ?rest10
      case hy10 => intro W hSW; clear hSW; go_simp <;> with_reducible rfl
      try simp only [Act.put, List.setIfInBounds_toArray, List.set_cons_zero, List.set_cons_succ]
      refine EG_take 10 (v := ?v11) (by simp only [List.getElem?_toArray, List.getElem?_cons_succ, List.getElem?_cons_zero]; rfl) (by kernel_rfl) (by kernel_rfl) (by decide) (fun _ _ _ h => h) (Or.inl ⟨by rfl, ?hy11⟩) (trivial) ?rest11
      case hy11 => intro W hSW; clear hSW; go_simp <;> with_reducible rfl
      try simp only [Act.put, List.setIfInBounds_toArray, List.set_cons_zero, List.set_cons_succ]
      refine EG_take 11 (v := ?v12) (by simp only [List.getElem?_toArray, List.getElem?_cons_succ, List.getElem?_cons_zero]; rfl) (by kernel_rfl) (by kernel_rfl) (by decide) (fun _ _ _ h => h) (Or.inl ⟨by rfl, ?hy12⟩) (trivial) ?rest12
      case hy12 => intro W hSW; clear hSW; go_simp <;> with_reducible rfl
      try simp only [Act.put, List.setIfInBounds_toArray, List.set_cons_zero, List.set_cons_succ]
      refine EG_take 12 (v := ?v13) (by simp only [List.getElem?_toArray, List.getElem?_cons_succ, List.getElem?_cons_zero]; rfl) (by kernel_rfl) (by kernel_rfl) (by decide) (fun _ _ _ h => h) (Or.inl ⟨by rfl, ?hy13⟩) (trivial) ?rest13
      case hy13 => intro W hSW; clear hSW; go_simp <;> with_reducible rfl
      try simp only [Act.put, List.setIfInBounds_toArray, List.set_cons_zero, List.set_cons_succ]
      refine EG_take 13 (v := ?v14) (by simp only [List.getElem?_toArray, List.getElem?_cons_succ, List.getElem?_cons_zero]; rfl) (by kernel_rfl) (by kernel_rfl) (by decide) (fun _ _ _ h => h) (Or.inl ⟨by rfl, ?hy14⟩) (trivial) ?rest14
      case hy14 => intro W hSW; clear hSW; go_simp <;> with_reducible rfl
      try simp only [Act.put, List.setIfInBounds_toArray, List.set_cons_zero, List.set_cons_succ]
      refine EG_take 14 (v := ?v15) (by simp only [List.getElem?_toArray, List.getElem?_cons_succ, List.getElem?_cons_zero]; rfl) (by kernel_rfl) (by kernel_rfl) (by decide) (fun _ _ _ h => h) (Or.inl ⟨by rfl, ?hy15⟩) (trivial) ?rest15
      case hy15 => intro W hSW; clear hSW; go_simp <;> with_reducible rfl
      try simp only [Act.put, List.setIfInBounds_toArray, List.set_cons_zero, List.set_cons_succ]
      refine EG_one 15 (by kernel_rfl) (by simp only [List.getElem?_toArray, List.getElem?_cons_succ, List.getElem?_cons_zero]; rfl) (by decide) ?_
      intro K hK0
      have hK := hid hK0
      clear hK0
      go_simp
      refine (C0.out _ (ext_drew _)).mono ?_
      rintro e0 w12 ⟨rfl, x12⟩
      have X12 : Hid (Ext w11 w12) := hid (ext_trans (ext_drew _) x12)
      clear x12
      go_simp
      refine hK.out _ _ (trivial) ?_
      clear hK K
      try simp only [Act.put, List.setIfInBounds_toArray, List.set_cons_zero, List.set_cons_succ]
      refine EG_take 16 (v := ?v16) (by simp only [List.getElem?_toArray, List.getElem?_cons_succ, List.getElem?_cons_zero]; rfl) (by kernel_rfl) (by kernel_rfl) (by decide) (fun _ _ _ h => h) (Or.inl ⟨by rfl, ?hy16⟩) (trivial) ?rest16
      case hy16 => intro W hSW; clear hSW; go_simp <;> with_reducible rfl
      try simp only [Act.put, List.setIfInBounds_toArray, List.set_cons_zero, List.set_cons_succ]
      refine EG_take 17 (v := ?v17) (by simp only [List.getElem?_toArray, List.getElem?_cons_succ, List.getElem?_cons_zero]; rfl) (by kernel_rfl) (by kernel_rfl) (by decide) (fun _ _ _ h => h) (Or.inl ⟨by rfl, ?hy17⟩) (trivial) ?rest17
      case hy17 => intro W hSW; clear hSW; go_simp <;> with_reducible rfl
      try simp only [Act.put, List.setIfInBounds_toArray, List.set_cons_zero, List.set_cons_succ]
      refine EG_take 18 (v := ?v18) (by simp only [List.getElem?_toArray, List.getElem?_cons_succ, List.getElem?_cons_zero]; rfl) (by kernel_rfl) (by kernel_rfl) (by decide) (fun _ _ _ h => h) (Or.inl ⟨by rfl, ?hy18⟩) (trivial) ?rest18
      case hy18 => intro W hSW; clear hSW; go_simp <;> with_reducible rfl
      try simp only [Act.put, List.setIfInBounds_toArray, List.set_cons_zero, List.set_cons_succ]
      refine EG_take 19 (v := ?v19) (by simp only [List.getElem?_toArray, List.getElem?_cons_succ, List.getElem?_cons_zero]; rfl) (by kernel_rfl) (by kernel_rfl) (by decide) (fun _ _ _ h => h) (Or.inl ⟨by rfl, ?hy19⟩) (trivial) ?rest19
      case hy19 => intro W hSW; clear hSW; go_simp <;> with_reducible rfl
      try simp only [Act.put, List.setIfInBounds_toArray, List.set_cons_zero, List.set_cons_succ]
      refine EG_take 20 (v := ?v20) (by simp only [List.getElem?_toArray, List.getElem?_cons_succ, List.getElem?_cons_zero]; rfl) (by kernel_rfl) (by kernel_rfl) (by decide) (fun _ _ _ h => h) (Or.inl ⟨by rfl, ?hy20⟩) (trivial) ?rest20
      case hy20 => intro W hSW; clear hSW; go_simp <;> with_reducible rfl
      try simp only [Act.put, List.setIfInBounds_toArray, List.set_cons_zero, List.set_cons_succ]
      refine EG_take 21 (v := ?v21) (by simp only [List.getElem?_toArray, List.getElem?_cons_succ, List.getElem?_cons_zero]; rfl) (by kernel_rfl) (by kernel_rfl) (by decide) (fun _ _ _ h => h) (Or.inl ⟨by rfl, ?hy21⟩) (trivial) ?rest21
      case hy21 => intro W hSW; clear hSW; go_simp <;> with_reducible rfl
      try simp only [Act.put, List.setIfInBounds_toArray, List.set_cons_zero, List.set_cons_succ]
      refine EG_take 22 (v := undef) (by simp only [List.getElem?_toArray, List.getElem?_cons_succ, List.getElem?_cons_zero]; rfl) (by kernel_rfl) (by kernel_rfl) (by decide) (fun _ _ _ h => h) (Or.inr ⟨by rfl, rfl⟩) (trivial) ?rest22
      try simp only [Act.put, List.setIfInBounds_toArray, List.set_cons_zero, List.set_cons_succ]
      refine EG_take 23 (v := undef) (by simp only [List.getElem?_toArray, List.getElem?_cons_succ, List.getElem?_cons_zero]; rfl) (by kernel_rfl) (by kernel_rfl) (by decide) (fun _ _ _ h => h) (Or.inr ⟨by rfl, rfl⟩) (trivial) ?rest23
      try simp only [Act.put, List.setIfInBounds_toArray, List.set_cons_zero, List.set_cons_succ]
      refine EG_take 24 (v := undef) (by simp only [List.getElem?_toArray, List.getElem?_cons_succ, List.getElem?_cons_zero]; rfl) (by kernel_rfl) (by kernel_rfl) (by decide) (fun _ _ _ h => h) (Or.inr ⟨by rfl, rfl⟩) (trivial) ?rest24
      try simp only [Act.put, List.setIfInBounds_toArray, List.set_cons_zero, List.set_cons_succ]
      refine EG_take 25 (v := undef) (by simp only [List.getElem?_toArray, List.getElem?_cons_succ, List.getElem?_cons_zero]; rfl) (by kernel_rfl) (by kernel_rfl) (by decide) (fun _ _ _ h => h) (Or.inr ⟨by rfl, rfl⟩) (trivial) ?rest25
      try simp only [Act.put, List.setIfInBounds_toArray, List.set_cons_zero, List.set_cons_succ]
      refine EG_take 26 (v := undef) (by simp only [List.getElem?_toArray, List.getElem?_cons_succ, List.getElem?_cons_zero]; rfl) (by kernel_rfl) (by kernel_rfl) (by decide) (fun _ _ _ h => h) (Or.inr ⟨by rfl, rfl⟩) (trivial) ?rest26
      try simp only [Act.put, List.setIfInBounds_toArray, List.set_cons_zero, List.set_cons_succ]
      refine EG_take 27 (v := undef) (by simp only [List.getElem?_toArray, List.getElem?_cons_succ, List.getElem?_cons_zero]; rfl) (by kernel_rfl) (by kernel_rfl) (by decide) (fun _ _ _ h => h) (Or.inr ⟨by rfl, rfl⟩) (trivial) ?rest27
      try simp only [Act.put, List.setIfInBounds_toArray, List.set_cons_zero, List.set_cons_succ]
      refine EG_take 28 (v := undef) (by simp only [List.getElem?_toArray, List.getElem?_cons_succ, List.getElem?_cons_zero]; rfl) (by kernel_rfl) (by kernel_rfl) (by decide) (fun _ _ _ h => h) (Or.inr ⟨by rfl, rfl⟩) (trivial) ?rest28
      try simp only [Act.put, List.setIfInBounds_toArray, List.set_cons_zero, List.set_cons_succ]
      refine EG_take 29 (v := undef) (by simp only [List.getElem?_toArray, List.getElem?_cons_succ, List.getElem?_cons_zero]; rfl) (by kernel_rfl) (by kernel_rfl) (by decide) (fun _ _ _ h => h) (Or.inr ⟨by rfl, rfl⟩) (trivial) ?rest29
      try simp only [Act.put, List.setIfInBounds_toArray, List.set_cons_zero, List.set_cons_succ]
      refine EG_take 30 (v := undef) (by simp only [List.getElem?_toArray, List.getElem?_cons_succ, List.getElem?_cons_zero]; rfl) (by kernel_rfl) (by kernel_rfl) (by decide) (fun _ _ _ h => h) (Or.inr ⟨by rfl, rfl⟩) (trivial) ?rest30
      try simp only [Act.put, List.setIfInBounds_toArray, List.set_cons_zero, List.set_cons_succ]
      refine EG_take 31 (v := undef) (by simp only [List.getElem?_toArray, List.getElem?_cons_succ, List.getElem?_cons_zero]; rfl) (by kernel_rfl) (by kernel_rfl) (by decide) (fun _ _ _ h => h) (Or.inr ⟨by rfl, rfl⟩) (trivial) ?rest31
      try simp only [Act.put, List.setIfInBounds_toArray, List.set_cons_zero, List.set_cons_succ]
      refine EG_take 32 (v := undef) (by simp only [List.getElem?_toArray, List.getElem?_cons_succ, List.getElem?_cons_zero]; rfl) (by kernel_rfl) (by kernel_rfl) (by decide) (fun _ _ _ h => h) (Or.inr ⟨by rfl, rfl⟩) (trivial) ?rest32
      try simp only [Act.put, List.setIfInBounds_toArray, List.set_cons_zero, List.set_cons_succ]
      refine EG_take 33 (v := ?v33) (by simp only [List.getElem?_toArray, List.getElem?_cons_succ, List.getElem?_cons_zero]; rfl) (by kernel_rfl) (by kernel_rfl) (by decide) (fun _ _ _ h => h) (Or.inl ⟨by rfl, ?hy33⟩) (trivial) ?rest33
      case hy33 => intro W hSW; clear hSW; go_simp <;> with_reducible rfl
      try simp only [Act.put, List.setIfInBounds_toArray, List.set_cons_zero, List.set_cons_succ]
      refine EG_take 34 (v := ?v34) (by simp only [List.getElem?_toArray, List.getElem?_cons_succ, List.getElem?_cons_zero]; rfl) (by kernel_rfl) (by kernel_rfl) (by decide) (fun _ _ _ h => h) (Or.inl ⟨by rfl, ?hy34⟩) (trivial) ?rest34
      case hy34 => intro W hSW; clear hSW; go_simp <;> with_reducible rfl
      try simp only [Act.put, List.setIfInBounds_toArray, List.set_cons_zero, List.set_cons_succ]
      refine EG_end (by kernel_rfl) (by simp only [List.getElem?_toArray, List.getElem?_cons_succ, List.getElem?_cons_zero]; rfl) ?_
      intro K hK0
      have hK := hid hK0
      clear hK0
      go_simp
      refine hK.out _ _ ?_
      clear hK K
      refine NoPanic.normal ?_
      go_wp2
      go_ret
      exact ⟨rfl, ext_trans X11.out X12.out⟩
    · obtain ⟨n, hn⟩ : ∃ n, D.length = n := ⟨_, rfl⟩
      have hl1 : M1.length = n + 1 := by
        have := congrArg List.length h1
        simpa [hn] using this
      have hl3 : n + 1 ≤ M3.length := by
        have := congrArg List.length h2
        simp [hn] at this
        omega
      have hl3' : n + 1 ≤ m3 := by rw [HM3.out] at hl3; exact hl3
      have t1 : (M1.take n).map Em.e = (M3.take n).map Em.e := by rw [List.map_take, List.map_take, h1, h2, ← hn, List.take_left, List.take_left]
      obtain ⟨b1, o1, hA1, hb1, hc1⟩ := L1.out.at_ (by omega)
      obtain ⟨b3, o3, hA3, hb3, hc3⟩ := L3.out.at_ (by omega)
      obtain ⟨x, _, hxe, x0, _⟩ := hc1 n (by omega)
      obtain ⟨y, _, hye, y0, _⟩ := hc3 n (by omega)
      have hkx : x.e.kind = y.e.kind := by
        have g1 : (M1.map Em.e)[n]? = some x.e := by rw [List.getElem?_map, List.getElem?_eq_getElem (by omega), ← hxe, getD_el (by omega)]; try rfl
        have g2 : (M3.map Em.e)[n]? = some y.e := by rw [List.getElem?_map, List.getElem?_eq_getElem (by omega), ← hye, getD_el (by omega)]; try rfl
        rw [h1, ← hn, List.getElem?_append_right (Nat.le_refl _), Nat.sub_self] at g1
        rw [h2, ← hn, List.getElem?_append_right (Nat.le_refl _), Nat.sub_self] at g2
        simp at g1 g2
        rw [← g1, ← g2]
        exact h3
      rw [hkx] at x0
      obtain ⟨kk, hkk⟩ : ∃ kk, y.e.kind = kk := ⟨_, rfl⟩
      rw [hkk] at x0 y0
      have C0 := hid (fun W (x : Ext w11 W) => same_events_n (EvR.ext (L1.out.take n (by omega)) x) (EvR.ext (L3.out.take n (by omega)) x) t1 (by rw [List.length_take, Nat.min_eq_left (by omega)]) (by rw [List.length_take, Nat.min_eq_left (by omega)]))
      subst hA1; subst hA3
      have KEEP : Hid (∀ W, Ext w11 W → W.cell? ⟨b1, o1 + n * 7, none⟩ = some (.int .i64 kk) ∧ W.cell? ⟨b3, o3 + n * 7, none⟩ = some (.int .i64 kk)) := hid (fun W x => ⟨(x.cell (p := ⟨b1, o1 + n * 7, none⟩) hb1).trans x0, (x.cell (p := ⟨b3, o3 + n * 7, none⟩) hb3).trans y0⟩)
      have hn1 : n ≤ 1000 := by omega
      have hcap1 : (n : Int) ≤ (c1 : Int) := by have := L1.out.1.2.1; omega
      have hcap3 : (n : Int) ≤ (c3 : Int) := by have := L3.out.1.2.1; omega
      obtain ⟨n1, hn1'⟩ : ∃ n1, n + 1 = n1 := ⟨_, rfl⟩
      rw [hn1'] at hl1
      have i1 : (n1 : Int) ≤ (m3 : Int) := by omega
      have i2 : IntKind.i64.wrap ((n1 : Int) - 1) = (n : Int) := by rw [IntWalk.i64_in _ (by omega)]; omega
      have i2' : (n1 : Int) - 1 = (n : Int) := by omega
      have i3 : ¬ (n1 : Int) = 0 := by omega
      have i3' : ¬ n1 = 0 := by omega
      have i3'' : ((n1 : Int) == 0) = false := by simpa using i3'
      have i4 : ¬ (n : Int) < 0 := by omega
      have i5 : (n : Int) < (n1 : Int) := by omega
      have i6 : (n : Int) < (m3 : Int) := by omega
      have i7 : (if (0 : Int) > (n : Int) then (0 : Int) else (n : Int)) = (n : Int) := by rw [if_neg (by omega)]
      rw [hl1]
      have HN1 := hid hn1'
      clear hn1'
      clear hl1 hl3 t1 hc1 hc3 hxe hye hkx hkk h1 h2 h3 hn x0 y0
      go_upto_region 13 with (fail)
      refine wp_region_noPanic ?_
      refine region_E (S := fun W => W.cell? ⟨b1, o1 + n * 7, none⟩ = some (.int .i64 kk) ∧ W.cell? ⟨b3, o3 + n * 7, none⟩ = some (.int .i64 kk)) 35 (by kernel_rfl) (by kernel_rfl) (by kernel_rfl) ?_
      refine EG_take 0 (v := ?v35) (by simp only [List.getElem?_toArray, List.getElem?_cons_succ, List.getElem?_cons_zero]; rfl) (by kernel_rfl) (by kernel_rfl) (by decide) (fun _ _ _ h => h) (Or.inl ⟨by rfl, ?hy35⟩) (KEEP.out _ (ext_drew _)) ?rest35
      case hy35 => intro W hSW; (try dsimp only at hSW); obtain ⟨e1, e2⟩ := hSW; go_simp <;> with_reducible rfl
      try simp only [Act.put, List.setIfInBounds_toArray, List.set_cons_zero, List.set_cons_succ]
      refine EG_take 1 (v := ?v36) (by simp only [List.getElem?_toArray, List.getElem?_cons_succ, List.getElem?_cons_zero]; rfl) (by kernel_rfl) (by kernel_rfl) (by decide) (fun _ _ _ h => h) (Or.inl ⟨by rfl, ?hy36⟩) (KEEP.out _ (ext_drew _)) ?rest36
      case hy36 => intro W hSW; (try dsimp only at hSW); obtain ⟨e1, e2⟩ := hSW; go_simp <;> with_reducible rfl
      try simp only [Act.put, List.setIfInBounds_toArray, List.set_cons_zero, List.set_cons_succ]
      refine EG_take 2 (v := ?v37) (by simp only [List.getElem?_toArray, List.getElem?_cons_succ, List.getElem?_cons_zero]; rfl) (by kernel_rfl) (by kernel_rfl) (by decide) (fun _ _ _ h => h) (Or.inl ⟨by rfl, ?hy37⟩) (KEEP.out _ (ext_drew _)) ?rest37
      case hy37 => intro W hSW; (try dsimp only at hSW); obtain ⟨e1, e2⟩ := hSW; go_simp <;> with_reducible rfl
      try simp only [Act.put, List.setIfInBounds_toArray, List.set_cons_zero, List.set_cons_succ]
      refine EG_take 3 (v := ?v38) (by simp only [List.getElem?_toArray, List.getElem?_cons_succ, List.getElem?_cons_zero]; rfl) (by kernel_rfl) (by kernel_rfl) (by decide) (fun _ _ _ h => h) (Or.inl ⟨by rfl, ?hy38⟩) (KEEP.out _ (ext_drew _)) ?rest38
      case hy38 => intro W hSW; (try dsimp only at hSW); obtain ⟨e1, e2⟩ := hSW; go_simp <;> with_reducible rfl
      try simp only [Act.put, List.setIfInBounds_toArray, List.set_cons_zero, List.set_cons_succ]
      refine EG_take 4 (v := ?v39) (by simp only [List.getElem?_toArray, List.getElem?_cons_succ, List.getElem?_cons_zero]; rfl) (by kernel_rfl) (by kernel_rfl) (by decide) (fun _ _ _ h => h) (Or.inl ⟨by rfl, ?hy39⟩) (KEEP.out _ (ext_drew _)) ?rest39
      case hy39 => intro W hSW; (try dsimp only at hSW); obtain ⟨e1, e2⟩ := hSW; go_simp <;> with_reducible rfl
      try simp only [Act.put, List.setIfInBounds_toArray, List.set_cons_zero, List.set_cons_succ]
      refine EG_take 5 (v := ?v40) (by simp only [List.getElem?_toArray, List.getElem?_cons_succ, List.getElem?_cons_zero]; rfl) (by kernel_rfl) (by kernel_rfl) (by decide) (fun _ _ _ h => h) (Or.inl ⟨by rfl, ?hy40⟩) (KEEP.out _ (ext_drew _)) ?rest40
      case hy40 => intro W hSW; (try dsimp only at hSW); obtain ⟨e1, e2⟩ := hSW; go_simp <;> with_reducible rfl
      try simp only [Act.put, List.setIfInBounds_toArray, List.set_cons_zero, List.set_cons_succ]
      refine EG_take 6 (v := ?v41) (by simp only [List.getElem?_toArray, List.getElem?_cons_succ, List.getElem?_cons_zero]; rfl) (by kernel_rfl) (by kernel_rfl) (by decide) (fun _ _ _ h => h) (Or.inl ⟨by rfl, ?hy41⟩) (KEEP.out _ (ext_drew _)) ?rest41
      case hy41 => intro W hSW; (try dsimp only at hSW); obtain ⟨e1, e2⟩ := hSW; go_simp <;> with_reducible rfl
      try simp only [Act.put, List.setIfInBounds_toArray, List.set_cons_zero, List.set_cons_succ]
      refine EG_take 7 (v := ?v42) (by simp only [List.getElem?_toArray, List.getElem?_cons_succ, List.getElem?_cons_zero]; rfl) (by kernel_rfl) (by kernel_rfl) (by decide) (fun _ _ _ h => h) (Or.inl ⟨by rfl, ?hy42⟩) (KEEP.out _ (ext_drew _)) ?rest42
      case hy42 => intro W hSW; (try dsimp only at hSW); obtain ⟨e1, e2⟩ := hSW; go_simp <;> with_reducible rfl
      try simp only [Act.put, List.setIfInBounds_toArray, List.set_cons_zero, List.set_cons_succ]
      refine EG_take 8 (v := ?v43) (by simp only [List.getElem?_toArray, List.getElem?_cons_succ, List.getElem?_cons_zero]; rfl) (by kernel_rfl) (by kernel_rfl) (by decide) (fun _ _ _ h => h) (Or.inl ⟨by rfl, ?hy43⟩) (KEEP.out _ (ext_drew _)) ?rest43
      case hy43 => intro W hSW; (try dsimp only at hSW); obtain ⟨e1, e2⟩ := hSW; go_simp <;> with_reducible rfl
      try simp only [Act.put, List.setIfInBounds_toArray, List.set_cons_zero, List.set_cons_succ]
      refine EG_take 9 (v := ?v44) (by simp only [List.getElem?_toArray, List.getElem?_cons_succ, List.getElem?_cons_zero]; rfl) (by kernel_rfl) (by kernel_rfl) (by decide) (fun _ _ _ h => h) (Or.inl ⟨by rfl, ?hy44⟩) (KEEP.out _ (ext_drew _)) ?rest44
      case hy44 => intro W hSW; (try dsimp only at hSW); obtain ⟨e1, e2⟩ := hSW; go_simp <;> with_reducible rfl
      try simp only [Act.put, List.setIfInBounds_toArray, List.set_cons_zero, List.set_cons_succ]
      refine EG_take 10 (v := ?v45) (by simp only [List.getElem?_toArray, List.getElem?_cons_succ, List.getElem?_cons_zero]; rfl) (by kernel_rfl) (by kernel_rfl) (by decide) (fun _ _ _ h => h) (Or.inl ⟨by rfl, ?hy45⟩) (KEEP.out _ (ext_drew _)) ?rest45
      case hy45 => intro W hSW; (try dsimp only at hSW); obtain ⟨e1, e2⟩ := hSW; go_simp <;> with_reducible rfl
      try simp only [Act.put, List.setIfInBounds_toArray, List.set_cons_zero, List.set_cons_succ]
      refine EG_take 11 (v := ?v46) (by simp only [List.getElem?_toArray, List.getElem?_cons_succ, List.getElem?_cons_zero]; rfl) (by kernel_rfl) (by kernel_rfl) (by decide) (fun _ _ _ h => h) (Or.inl ⟨by rfl, ?hy46⟩) (KEEP.out _ (ext_drew _)) ?rest46
      case hy46 => intro W hSW; (try dsimp only at hSW); obtain ⟨e1, e2⟩ := hSW; go_simp <;> with_reducible rfl
      try simp only [Act.put, List.setIfInBounds_toArray, List.set_cons_zero, List.set_cons_succ]
      refine EG_take 12 (v := ?v47) (by simp only [List.getElem?_toArray, List.getElem?_cons_succ, List.getElem?_cons_zero]; rfl) (by kernel_rfl) (by kernel_rfl) (by decide) (fun _ _ _ h => h) (Or.inl ⟨by rfl, ?hy47⟩) (KEEP.out _ (ext_drew _)) ?rest47
      case hy47 => intro W hSW; (try dsimp only at hSW); obtain ⟨e1, e2⟩ := hSW; go_simp <;> with_reducible rfl
      try simp only [Act.put, List.setIfInBounds_toArray, List.set_cons_zero, List.set_cons_succ]
      refine EG_take 13 (v := ?v48) (by simp only [List.getElem?_toArray, List.getElem?_cons_succ, List.getElem?_cons_zero]; rfl) (by kernel_rfl) (by kernel_rfl) (by decide) (fun _ _ _ h => h) (Or.inl ⟨by rfl, ?hy48⟩) (KEEP.out _ (ext_drew _)) ?rest48
      case hy48 => intro W hSW; (try dsimp only at hSW); obtain ⟨e1, e2⟩ := hSW; go_simp <;> with_reducible rfl
      try simp only [Act.put, List.setIfInBounds_toArray, List.set_cons_zero, List.set_cons_succ]
      refine EG_take 14 (v := ?v49) (by simp only [List.getElem?_toArray, List.getElem?_cons_succ, List.getElem?_cons_zero]; rfl) (by kernel_rfl) (by kernel_rfl) (by decide) (fun _ _ _ h => h) (Or.inl ⟨by rfl, ?hy49⟩) (KEEP.out _ (ext_drew _)) ?rest49
      case hy49 => intro W hSW; (try dsimp only at hSW); obtain ⟨e1, e2⟩ := hSW; go_simp <;> with_reducible rfl
      try simp only [Act.put, List.setIfInBounds_toArray, List.set_cons_zero, List.set_cons_succ]
      refine EG_one 15 (by kernel_rfl) (by simp only [List.getElem?_toArray, List.getElem?_cons_succ, List.getElem?_cons_zero]; rfl) (by decide) ?_
      intro K hK0
      have hK := hid hK0
      clear hK0
      go_simp
      refine (C0.out _ (ext_drew _)).mono ?_
      rintro e0 w12 ⟨rfl, x12⟩
      have X12 : Hid (Ext w11 w12) := hid (ext_trans (ext_drew _) x12)
      clear x12
      go_simp
      refine hK.out _ _ (KEEP.out _ X12.out) ?_
      clear hK K
      try simp only [Act.put, List.setIfInBounds_toArray, List.set_cons_zero, List.set_cons_succ]
      refine EG_take 16 (v := ?v50) (by simp only [List.getElem?_toArray, List.getElem?_cons_succ, List.getElem?_cons_zero]; rfl) (by kernel_rfl) (by kernel_rfl) (by decide) (fun _ _ _ h => h) (Or.inl ⟨by rfl, ?hy50⟩) (KEEP.out _ X12.out) ?rest50
      case hy50 => intro W hSW; (try dsimp only at hSW); obtain ⟨e1, e2⟩ := hSW; go_simp <;> with_reducible rfl
      try simp only [Act.put, List.setIfInBounds_toArray, List.set_cons_zero, List.set_cons_succ]
      refine EG_take 17 (v := ?v51) (by simp only [List.getElem?_toArray, List.getElem?_cons_succ, List.getElem?_cons_zero]; rfl) (by kernel_rfl) (by kernel_rfl) (by decide) (fun _ _ _ h => h) (Or.inl ⟨by rfl, ?hy51⟩) (KEEP.out _ X12.out) ?rest51
      case hy51 => intro W hSW; (try dsimp only at hSW); obtain ⟨e1, e2⟩ := hSW; go_simp <;> with_reducible rfl
      try simp only [Act.put, List.setIfInBounds_toArray, List.set_cons_zero, List.set_cons_succ]
      refine EG_take 18 (v := ?v52) (by simp only [List.getElem?_toArray, List.getElem?_cons_succ, List.getElem?_cons_zero]; rfl) (by kernel_rfl) (by kernel_rfl) (by decide) (fun _ _ _ h => h) (Or.inl ⟨by rfl, ?hy52⟩) (KEEP.out _ X12.out) ?rest52
      case hy52 => intro W hSW; (try dsimp only at hSW); obtain ⟨e1, e2⟩ := hSW; go_simp <;> with_reducible rfl
      try simp only [Act.put, List.setIfInBounds_toArray, List.set_cons_zero, List.set_cons_succ]
      refine EG_take 19 (v := ?v53) (by simp only [List.getElem?_toArray, List.getElem?_cons_succ, List.getElem?_cons_zero]; rfl) (by kernel_rfl) (by kernel_rfl) (by decide) (fun _ _ _ h => h) (Or.inl ⟨by rfl, ?hy53⟩) (KEEP.out _ X12.out) ?rest53
      case hy53 => intro W hSW; (try dsimp only at hSW); obtain ⟨e1, e2⟩ := hSW; go_simp <;> with_reducible rfl
      try simp only [Act.put, List.setIfInBounds_toArray, List.set_cons_zero, List.set_cons_succ]
      refine EG_take 20 (v := ?v54) (by simp only [List.getElem?_toArray, List.getElem?_cons_succ, List.getElem?_cons_zero]; rfl) (by kernel_rfl) (by kernel_rfl) (by decide) (fun _ _ _ h => h) (Or.inl ⟨by rfl, ?hy54⟩) (KEEP.out _ X12.out) ?rest54
      case hy54 => intro W hSW; (try dsimp only at hSW); obtain ⟨e1, e2⟩ := hSW; go_simp <;> with_reducible rfl
      try simp only [Act.put, List.setIfInBounds_toArray, List.set_cons_zero, List.set_cons_succ]
      refine EG_take 21 (v := ?v55) (by simp only [List.getElem?_toArray, List.getElem?_cons_succ, List.getElem?_cons_zero]; rfl) (by kernel_rfl) (by kernel_rfl) (by decide) (fun _ _ _ h => h) (Or.inl ⟨by rfl, ?hy55⟩) (KEEP.out _ X12.out) ?rest55
      case hy55 => intro W hSW; (try dsimp only at hSW); obtain ⟨e1, e2⟩ := hSW; go_simp <;> with_reducible rfl
      try simp only [Act.put, List.setIfInBounds_toArray, List.set_cons_zero, List.set_cons_succ]
      refine EG_take 22 (v := ?v56) (by simp only [List.getElem?_toArray, List.getElem?_cons_succ, List.getElem?_cons_zero]; rfl) (by kernel_rfl) (by kernel_rfl) (by decide) (fun _ _ _ h => h) (Or.inl ⟨by rfl, ?hy56⟩) (KEEP.out _ X12.out) ?rest56
      case hy56 => intro W hSW; (try dsimp only at hSW); obtain ⟨e1, e2⟩ := hSW; go_simp <;> with_reducible rfl
      try simp only [Act.put, List.setIfInBounds_toArray, List.set_cons_zero, List.set_cons_succ]
      refine EG_take 23 (v := ?v57) (by simp only [List.getElem?_toArray, List.getElem?_cons_succ, List.getElem?_cons_zero]; rfl) (by kernel_rfl) (by kernel_rfl) (by decide) (fun _ _ _ h => h) (Or.inl ⟨by rfl, ?hy57⟩) (KEEP.out _ X12.out) ?rest57
      case hy57 => intro W hSW; (try dsimp only at hSW); obtain ⟨e1, e2⟩ := hSW; go_simp <;> with_reducible rfl
      try simp only [Act.put, List.setIfInBounds_toArray, List.set_cons_zero, List.set_cons_succ]
      refine EG_take 24 (v := ?v58) (by simp only [List.getElem?_toArray, List.getElem?_cons_succ, List.getElem?_cons_zero]; rfl) (by kernel_rfl) (by kernel_rfl) (by decide) (fun _ _ _ h => h) (Or.inl ⟨by rfl, ?hy58⟩) (KEEP.out _ X12.out) ?rest58
      case hy58 => intro W hSW; (try dsimp only at hSW); obtain ⟨e1, e2⟩ := hSW; go_simp <;> with_reducible rfl
      try simp only [Act.put, List.setIfInBounds_toArray, List.set_cons_zero, List.set_cons_succ]
      refine EG_take 25 (v := ?v59) (by simp only [List.getElem?_toArray, List.getElem?_cons_succ, List.getElem?_cons_zero]; rfl) (by kernel_rfl) (by kernel_rfl) (by decide) (fun _ _ _ h => h) (Or.inl ⟨by rfl, ?hy59⟩) (KEEP.out _ X12.out) ?rest59
      case hy59 => intro W hSW; (try dsimp only at hSW); obtain ⟨e1, e2⟩ := hSW; go_simp <;> with_reducible rfl
      try simp only [Act.put, List.setIfInBounds_toArray, List.set_cons_zero, List.set_cons_succ]
      refine EG_take 26 (v := ?v60) (by simp only [List.getElem?_toArray, List.getElem?_cons_succ, List.getElem?_cons_zero]; rfl) (by kernel_rfl) (by kernel_rfl) (by decide) (fun _ _ _ h => h) (Or.inl ⟨by rfl, ?hy60⟩) (KEEP.out _ X12.out) ?rest60
      case hy60 => intro W hSW; (try dsimp only at hSW); obtain ⟨e1, e2⟩ := hSW; go_simp <;> with_reducible rfl
      try simp only [Act.put, List.setIfInBounds_toArray, List.set_cons_zero, List.set_cons_succ]
      refine EG_take 27 (v := ?v61) (by simp only [List.getElem?_toArray, List.getElem?_cons_succ, List.getElem?_cons_zero]; rfl) (by kernel_rfl) (by kernel_rfl) (by decide) (fun _ _ _ h => h) (Or.inl ⟨by rfl, ?hy61⟩) (KEEP.out _ X12.out) ?rest61
      case hy61 => intro W hSW; (try dsimp only at hSW); obtain ⟨e1, e2⟩ := hSW; go_simp <;> with_reducible rfl
      try simp only [Act.put, List.setIfInBounds_toArray, List.set_cons_zero, List.set_cons_succ]
      refine EG_take 28 (v := ?v62) (by simp only [List.getElem?_toArray, List.getElem?_cons_succ, List.getElem?_cons_zero]; rfl) (by kernel_rfl) (by kernel_rfl) (by decide) (fun _ _ _ h => h) (Or.inl ⟨by rfl, ?hy62⟩) (KEEP.out _ X12.out) ?rest62
      case hy62 => intro W hSW; (try dsimp only at hSW); obtain ⟨e1, e2⟩ := hSW; go_simp <;> with_reducible rfl
      try simp only [Act.put, List.setIfInBounds_toArray, List.set_cons_zero, List.set_cons_succ]
      refine EG_take 29 (v := ?v63) (by simp only [List.getElem?_toArray, List.getElem?_cons_succ, List.getElem?_cons_zero]; rfl) (by kernel_rfl) (by kernel_rfl) (by decide) (fun _ _ _ h => h) (Or.inl ⟨by rfl, ?hy63⟩) (KEEP.out _ X12.out) ?rest63
      case hy63 => intro W hSW; (try dsimp only at hSW); obtain ⟨e1, e2⟩ := hSW; go_simp <;> with_reducible rfl
      try simp only [Act.put, List.setIfInBounds_toArray, List.set_cons_zero, List.set_cons_succ]
      refine EG_take 30 (v := ?v64) (by simp only [List.getElem?_toArray, List.getElem?_cons_succ, List.getElem?_cons_zero]; rfl) (by kernel_rfl) (by kernel_rfl) (by decide) (fun _ _ _ h => h) (Or.inl ⟨by rfl, ?hy64⟩) (KEEP.out _ X12.out) ?rest64
      case hy64 => intro W hSW; (try dsimp only at hSW); obtain ⟨e1, e2⟩ := hSW; go_simp <;> with_reducible rfl
      try simp only [Act.put, List.setIfInBounds_toArray, List.set_cons_zero, List.set_cons_succ]
      refine EG_take 31 (v := ?v65) (by simp only [List.getElem?_toArray, List.getElem?_cons_succ, List.getElem?_cons_zero]; rfl) (by kernel_rfl) (by kernel_rfl) (by decide) (fun _ _ _ h => h) (Or.inl ⟨by rfl, ?hy65⟩) (KEEP.out _ X12.out) ?rest65
      case hy65 => intro W hSW; (try dsimp only at hSW); obtain ⟨e1, e2⟩ := hSW; go_simp <;> with_reducible rfl
      try simp only [Act.put, List.setIfInBounds_toArray, List.set_cons_zero, List.set_cons_succ]
      refine EG_take 32 (v := ?v66) (by simp only [List.getElem?_toArray, List.getElem?_cons_succ, List.getElem?_cons_zero]; rfl) (by kernel_rfl) (by kernel_rfl) (by decide) (fun _ _ _ h => h) (Or.inl ⟨by rfl, ?hy66⟩) (KEEP.out _ X12.out) ?rest66
      case hy66 => intro W hSW; (try dsimp only at hSW); obtain ⟨e1, e2⟩ := hSW; go_simp <;> with_reducible rfl
      try simp only [Act.put, List.setIfInBounds_toArray, List.set_cons_zero, List.set_cons_succ]
      refine EG_take 33 (v := ?v67) (by simp only [List.getElem?_toArray, List.getElem?_cons_succ, List.getElem?_cons_zero]; rfl) (by kernel_rfl) (by kernel_rfl) (by decide) (fun _ _ _ h => h) (Or.inl ⟨by rfl, ?hy67⟩) (KEEP.out _ X12.out) ?rest67
      case hy67 => intro W hSW; (try dsimp only at hSW); obtain ⟨e1, e2⟩ := hSW; go_simp <;> with_reducible rfl
      try simp only [Act.put, List.setIfInBounds_toArray, List.set_cons_zero, List.set_cons_succ]
      refine EG_take 34 (v := ?v68) (by simp only [List.getElem?_toArray, List.getElem?_cons_succ, List.getElem?_cons_zero]; rfl) (by kernel_rfl) (by kernel_rfl) (by decide) (fun _ _ _ h => h) (Or.inl ⟨by rfl, ?hy68⟩) (KEEP.out _ X12.out) ?rest68
      case hy68 => intro W hSW; (try dsimp only at hSW); obtain ⟨e1, e2⟩ := hSW; go_simp <;> with_reducible rfl
      try simp only [Act.put, List.setIfInBounds_toArray, List.set_cons_zero, List.set_cons_succ]
      refine EG_end (by kernel_rfl) (by simp only [List.getElem?_toArray, List.getElem?_cons_succ, List.getElem?_cons_zero]; rfl) ?_
      intro K hK0
      have hK := hid hK0
      clear hK0
      go_simp
      refine hK.out _ _ ?_
      clear hK K
      refine NoPanic.normal ?_
      go_wp2
      go_ret
      exact ⟨rfl, ext_trans X11.out X12.out⟩
end Go.Proofs.Ytholjbnggnfapaa

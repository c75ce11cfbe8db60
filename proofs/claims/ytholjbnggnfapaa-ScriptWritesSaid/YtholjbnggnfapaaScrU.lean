/- Layer 29: long; ScriptBack's walk. -/
import Derived.Test.YtholjbnggnfapaaScrN
namespace Go.Proofs.Ytholjbnggnfapaa
open Go.BK Go.BK.SC Go.RowKit Go.Maps
set_option linter.unusedVariables false
set_option linter.unusedSimpArgs false
section
variable {w w' : World} {c : Nat} {A : Option Addr} {M : List Em}
def LgRel (m : Nat) (M : List Em) (w0 : World) (sv iv : Value) (wr : World) : Prop :=
  ∃ (j : Nat) (z : Int), j ≤ m ∧ iv = .int .i64 j ∧ sv = .int .i64 z ∧ wr = w0 ∧ ∀ i, i < j → (M.getD i em0).e.b.length ≤ 5000
def LongD (w w' : World) (M : List Em) (r : Ending) : Prop := ∃ q, r = .returned (.bool q) ∧ w = w' ∧ (q = false → M.length ≤ 5000 ∧ ∀ m ∈ M, m.e.b.length ≤ 5000)
set_option maxHeartbeats 2000000 in
set_option maxRecDepth 100000 in
theorem long_in (h : EvR w A c M) : Calls Try.prog 21 #[.slice A M.length c] w fun r w' => LongD w w' M r := by
  obtain ⟨m, hm⟩ : ∃ m, M.length = m := ⟨_, rfl⟩
  have hmx : m ≤ maxLen := by rw [← hm]; exact Nat.le_trans h.1.2.1 h.1.2.2.1
  unfold maxLen at hmx
  have H := hid h
  have HM := hid hm
  rw [hm]
  clear h hm
  go_enter Try.func21, Try.ntmps21
  go_wp2_with fail
  go_loopw [3, 4] (fun sv iv wr => LgRel m M w sv iv wr) (fun _ iv _ => m - (intOf iv).toNat)
  case atStart => exact ⟨0, 0, Nat.zero_le _, rfl, rfl, rfl, fun i hi => absurd hi (Nat.not_lt_zero _)⟩
  case round =>
    obtain ⟨j, z, hj, rfl, rfl, rfl, hall⟩ := hrel
    by_cases hlt : j < m
    · have i1 : (j : Int) < (m : Int) := by omega
      have hlt1 : j < M.length := by rw [HM.out]; exact hlt
      obtain ⟨b, o, hA, hb, hc⟩ := H.out.at_ (by omega)
      obtain ⟨x, hxm, hxe, _, _, _, _, _, _, x6, _⟩ := hc j hlt1
      obtain ⟨nl, hnl⟩ : ∃ nl, x.e.b.length = nl := ⟨_, rfl⟩
      rw [hnl] at x6
      subst hA
      have HALL := hid hall
      have HXE := hid hxe
      have HNL := hid hnl
      obtain ⟨z', hz'⟩ : ∃ z', IntKind.i64.wrap (z + (nl : Int)) = z' := ⟨_, rfl⟩
      clear hc hxm hxe hall hnl
      by_cases hbig : 5000 < nl
      · have i2 : (5000 : Int) < (nl : Int) := by omega
        go_wp2_with fail
        go_ret
        exact ⟨true, rfl, rfl, by simp⟩
      · have i2 : ¬ (5000 : Int) < (nl : Int) := by omega
        go_wp2_with fail
        go_roundw
        case rel =>
          refine ⟨j + 1, z', by omega, by go_num, rfl, rfl, fun i hi => ?_⟩
          rcases Nat.lt_or_ge i j with h1 | h1
          · exact HALL.out i h1
          · obtain rfl : i = j := by omega
            rw [HXE.out, HNL.out]
            omega
        case measure => simp [intOf]; omega
    · obtain rfl : j = m := by omega
      have i1 : ¬ (j : Int) < (j : Int) := by omega
      have HALL := hid hall
      clear hall
      by_cases h5 : 5000 < j
      · have i2 : (5000 : Int) < (j : Int) := by omega
        go_wp2_with fail
        go_ret
        exact ⟨true, ret_bool (by simp <;> omega), rfl, by simp⟩
      · have i2 : ¬ (5000 : Int) < (j : Int) := by omega
        obtain ⟨q, hq⟩ : ∃ q, decide (100000 < z) = q := ⟨_, rfl⟩
        go_wp2_with fail
        go_ret
        refine ⟨q, ret_bool (by simp [← hq] <;> omega), rfl, fun _ => ⟨by rw [HM.out]; omega, fun m hm => ?_⟩⟩
        obtain ⟨i, hi, rfl⟩ := List.mem_iff_getElem.1 hm
        have := HALL.out i (by have := HM.out; omega)
        rwa [getD_el hi] at this
theorem bytes_cases (L : List Ev) : (bytesS L = (L.flatMap layS, 0) ∧ (∀ e ∈ L, fit e) ∧ L.length ≤ 4096) ∨ ∃ k, bytesS L = ([], k) ∧ (k = 2 ∨ k = 3) := by
  unfold bytesS
  by_cases h : 4096 < L.length
  · rw [if_pos h]
    exact .inr ⟨3, rfl, .inr rfl⟩
  · rw [if_neg h]
    by_cases h2 : ∀ e ∈ L, fit e
    · rw [if_pos h2]
      exact .inl ⟨rfl, h2, by omega⟩
    · rw [if_neg h2]
      exact .inr ⟨2, rfl, .inl rfl⟩
set_option maxHeartbeats 4000000 in
set_option maxRecDepth 100000 in
theorem back_walk {B : Option Addr} {cb : Nat} {lb : List UInt8} (w : World) (hB : Rd w B cb lb) (hE : EvR w A c M ∧ ∀ m ∈ M, WfE m.e) :
    Calls Try.prog 8 #[.slice B lb.length cb, .slice A M.length c] w fun r w' => r = .returned (.bool true) ∧ Below w.heap.size w w' := by
  have hnb := hB.n_le
  have HB := hid hB
  have HE := hid hE.1
  have HW := hid hE.2
  have CG := hid (fun W (x : Ext w W) => long_in (hE.1.ext x))
  clear hB hE
  by_cases h1 : 5000 < lb.length
  · have q1 : (5000 : Int) < (lb.length : Int) := by omega
    go_enter Try.func8, Try.ntmps8
    go_wp2_with fail
    refine (awake_in w).mono ?_
    rintro r w1 ⟨rfl, x1⟩
    go_wp2_with fail
    go_ret
    exact ⟨rfl, x1⟩
  have q1 : ¬ (5000 : Int) < (lb.length : Int) := by omega
  obtain ⟨nb, hnb'⟩ : ∃ nb, lb.length = nb := ⟨_, rfl⟩
  obtain ⟨nm, hnm'⟩ : ∃ nm, M.length = nm := ⟨_, rfl⟩
  have CY := hid (fun W (x : Ext w W) => bytes_in (HE.out.ext x) HW.out)
  have CK := hid (fun W (x : Ext w W) => check_in (HE.out.ext x) HW.out)
  have CB := hid (fun W (x : Ext w W) => events_in (RdG.ext HB.out x))
  obtain ⟨L, hL⟩ : ∃ L, M.map Em.e = L := ⟨_, rfl⟩
  rw [hL] at CY CK
  rw [hnb'] at CB q1 ⊢
  rw [hnm'] at CG CY CK ⊢
  have HNB := hid hnb'
  have HNM := hid hnm'
  have HL := hid hL
  clear hnb' hnm' h1 hnb hL
  go_enter Try.func8, Try.ntmps8
  go_wp2_with fail
  refine (awake_in w).mono ?_
  rintro r w1 ⟨rfl, x1⟩
  have X1 := hid x1
  clear x1
  go_wp2_with fail
  refine (CG.out w1 X1.out).mono ?_
  rintro r _ ⟨lg, rfl, rfl, hlg⟩
  clear hlg
  cases lg with
  | true =>
    go_wp2_with fail
    go_ret
    exact ⟨rfl, X1.out⟩
  | false =>
    go_wp2_with fail
    refine (CY.out w1 X1.out).mono ?_
    intro r w2 h2
    have TAIL : Hid (∀ w3 : World, Ext w w3 → Calls Try.prog 10 #[.slice B nb cb] w3 fun e w' => EvsD w3 w' lb e) := hid (fun w3 x => CB.out w3 x)
    rcases bytes_cases L with ⟨hk, hfit, hn⟩ | ⟨k, hk, hkk⟩
    · rw [BytD_eq hk] at h2
      obtain ⟨O, co, rfl, o2, x2⟩ := h2
      obtain ⟨X, hX⟩ : ∃ X, L.flatMap layS = X := ⟨_, rfl⟩
      rw [hX] at o2 ⊢
      have HX := hid hX
      have O2 := hid o2
      have X2 := hid (ext_trans X1.out x2)
      have CK2 := CK.out
      rw [hk] at CK2
      have CK2 := hid CK2
      have HFIT := hid hfit
      clear o2 x2 hX hk hfit
      go_wp2_with fail
      refine (CK2.out w2 X2.out).mono ?_
      rintro r w3 ⟨rfl, x3⟩
      have O3 := hid (OwnG.ext O2.out x3)
      have X3 := hid (ext_trans X2.out x3)
      clear x3
      go_wp2_with fail
      refine (events_in (OwnG.rd O3.out)).mono ?_
      rintro r w4 ⟨A4, c4, M4, rfl, l4, e4, x4⟩
      have e4' : M4.map Em.e = M.map Em.e := by
        rw [e4, HL.out, ← HX.out]
        exact events_back L HFIT.out 4096 hn
      have L4 := hid l4.rd
      have E4 := hid e4'
      have X4 := hid (ext_trans X3.out x4)
      clear l4 e4 e4' x4
      go_wp2_with fail
      refine (same_events_n L4.out (HE.out.ext X4.out) E4.out rfl HNM.out).mono ?_
      rintro r w5 ⟨rfl, x5⟩
      have X5 := hid (ext_trans X4.out x5)
      clear x5
      go_wp2_with fail
      refine (TAIL.out w5 X5.out).mono ?_
      rintro r w6 ⟨A6, c6, M6, rfl, l6, e6, x6⟩
      have L6 := hid l6.rd
      have E6 := hid e6
      have X6 := hid (ext_trans X5.out x6)
      clear l6 e6 x6
      go_wp2_with fail
      refine (bytes_in L6.out (wf_of E6.out)).mono ?_
      intro r w7 h7
      rw [BytD_eq (bytes_ok E6.out (Nat.le_refl _))] at h7
      obtain ⟨O7, c7, rfl, o7, x7⟩ := h7
      obtain ⟨Y, hY⟩ : ∃ Y, (M6.map Em.e).flatMap layS = Y := ⟨_, rfl⟩
      rw [hY] at o7 ⊢
      have HY := hid hY
      have O7 := hid o7
      have L7 := hid (L6.out.ext x7)
      have X7 := hid (ext_trans X6.out x7)
      clear o7 x7 hY
      go_wp2_with fail
      refine (events_in (OwnG.rd O7.out)).mono ?_
      rintro r w8 ⟨A8, c8, M8, rfl, l8, e8, x8⟩
      have e8' : M8.map Em.e = M6.map Em.e := by
        rw [e8, ← HY.out]
        refine events_back _ (fun e he => by rw [E6.out] at he; exact events_fit _ _ e he) 4096 ?_
        rw [E6.out]
        exact (events_len 4096 lb).2
      have L8 := hid l8.rd
      have E8 := hid e8'
      have L78 := hid (L7.out.ext x8)
      have X8 := hid (ext_trans X7.out x8)
      clear l8 e8 e8' x8
      go_wp2_with fail
      refine (same_events L8.out L78.out E8.out).mono ?_
      rintro r w9 ⟨rfl, x9⟩
      have X9 := hid (ext_trans X8.out x9)
      clear x9
      go_wp2_with fail
      go_ret
      exact ⟨rfl, X9.out⟩
    · rw [BytD_eq hk] at h2
      obtain ⟨O, co, rfl, o2, x2⟩ := h2
      have X5 := hid (ext_trans X1.out x2)
      have CK2 := CK.out
      rw [hk] at CK2
      have CK2 := hid CK2
      simp only [List.length_nil]
      have hk0 : ¬ k = 0 := by omega
      clear o2 x2 hk
      go_wp2_with fail
      refine (CK2.out w2 X5.out).mono ?_
      rintro r w5 ⟨rfl, x5⟩
      have X5 := hid (ext_trans X5.out x5)
      clear x5
      go_wp2_with fail
      refine (TAIL.out w5 X5.out).mono ?_
      rintro r w6 ⟨A6, c6, M6, rfl, l6, e6, x6⟩
      have L6 := hid l6.rd
      have E6 := hid e6
      have X6 := hid (ext_trans X5.out x6)
      clear l6 e6 x6
      go_wp2_with fail
      refine (bytes_in L6.out (wf_of E6.out)).mono ?_
      intro r w7 h7
      rw [BytD_eq (bytes_ok E6.out (Nat.le_refl _))] at h7
      obtain ⟨O7, c7, rfl, o7, x7⟩ := h7
      obtain ⟨Y, hY⟩ : ∃ Y, (M6.map Em.e).flatMap layS = Y := ⟨_, rfl⟩
      rw [hY] at o7 ⊢
      have HY := hid hY
      have O7 := hid o7
      have L7 := hid (L6.out.ext x7)
      have X7 := hid (ext_trans X6.out x7)
      clear o7 x7 hY
      go_wp2_with fail
      refine (events_in (OwnG.rd O7.out)).mono ?_
      rintro r w8 ⟨A8, c8, M8, rfl, l8, e8, x8⟩
      have e8' : M8.map Em.e = M6.map Em.e := by
        rw [e8, ← HY.out]
        refine events_back _ (fun e he => by rw [E6.out] at he; exact events_fit _ _ e he) 4096 ?_
        rw [E6.out]
        exact (events_len 4096 lb).2
      have L8 := hid l8.rd
      have E8 := hid e8'
      have L78 := hid (L7.out.ext x8)
      have X8 := hid (ext_trans X7.out x8)
      clear l8 e8 e8' x8
      go_wp2_with fail
      refine (same_events L8.out L78.out E8.out).mono ?_
      rintro r w9 ⟨rfl, x9⟩
      have X9 := hid (ext_trans X8.out x9)
      clear x9
      go_wp2_with fail
      go_ret
      exact ⟨rfl, X9.out⟩
end
end Go.Proofs.Ytholjbnggnfapaa

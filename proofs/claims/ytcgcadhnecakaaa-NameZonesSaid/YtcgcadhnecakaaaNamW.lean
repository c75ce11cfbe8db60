/- name.Within, and the document's: whether a name is in a zone. -/
import Derived.Test.YtcgcadhnecakaaaNamM
import Derived.Test.YtcgcadhnecakaaaRefQ
import Derived.Deep.RegionHeld3
namespace Go.Proofs.Ytcgcadhnecakaaa
open Go.BK Go.RowKit Go.BK.NM
set_option linter.unusedVariables false

def withinS (n z : Bs) : Bool := decide (checkS n = 0 ∧ checkS z = 0) && withinL (labelsS n).1 (labelsS z).1
theorem within_no {n z : Bs} (h : ¬ (checkS n = 0 ∧ checkS z = 0)) : withinS n z = false := by unfold withinS; simp [h]
theorem within_yes {n z : Bs} (h1 : checkS n = 0) (h2 : checkS z = 0) : withinS n z = withinL (labelsS n).1 (labelsS z).1 := by unfold withinS; simp [h1, h2]
theorem labels_bad {n : Bs} (h : checkS n ≠ 0) : (labelsS n).1 = [] := by
  unfold checkS at h
  rcases labels_cases n with ⟨hl, _⟩ | ⟨L, _, _, hl⟩ | ⟨L, _, _, hl⟩ <;> rw [hl] at h ⊢
  exact absurd rfl h
theorem labels_good {n : Bs} (h : checkS n = 0) : ∃ L, labelsS n = (L, 0) ∧ n = wire L ∧ okL L ∧ n.length ≤ 255 := by
  unfold checkS at h
  rcases labels_cases n with ⟨hl, _⟩ | ⟨L, _, _, hl⟩ | ⟨L, hL, hlen, hl⟩ <;> rw [hl] at h
  · simp at h
  · simp at h
  · exact ⟨L, hl, (labS_some hL).1, (labS_some hL).2, hlen⟩
theorem wire_len_le {L : List Bs} : L.length ≤ (wire L).length := by
  induction L with
  | nil => simp
  | cons s L ih => rw [wire_cons]; simp; omega
theorem mem_wire_le {L : List Bs} {s : Bs} (h : s ∈ L) : s.length ≤ (wire L).length := by
  induction L with
  | nil => cases h
  | cons t L ih =>
    rw [wire_cons]
    rcases List.mem_cons.1 h with rfl | h
    · simp; omega
    · have := ih h; simp; omega

theorem within_false_at {L Z : List Bs} (hzl : Z.length ≤ L.length) {k : Nat} (hk : k < Z.length) (h : lower (L.getD (L.length - Z.length + k) []) ≠ lower (Z.getD k [])) : withinL L Z = false := by
  unfold withinL
  rw [decide_eq_true hzl, Bool.true_and, decide_eq_false_iff_not]
  intro e
  have h1 := congrArg (fun l => l[k]?) e
  simp only [List.getElem?_map, List.getElem?_drop] at h1
  rw [List.getElem?_eq_getElem (by omega), List.getElem?_eq_getElem hk] at h1
  apply h
  rw [List.getD_eq_getElem?_getD, List.getD_eq_getElem?_getD, List.getElem?_eq_getElem (by omega), List.getElem?_eq_getElem hk]
  simpa using h1
theorem within_true_all {L Z : List Bs} (hzl : Z.length ≤ L.length) (h : ∀ k, k < Z.length → lower (L.getD (L.length - Z.length + k) []) = lower (Z.getD k [])) : withinL L Z = true := by
  unfold withinL
  rw [decide_eq_true hzl, Bool.true_and, decide_eq_true_iff]
  apply List.ext_getElem?
  intro k
  rw [List.getElem?_map, List.getElem?_map, List.getElem?_drop]
  by_cases hk : k < Z.length
  · have := h k hk
    rw [List.getD_eq_getElem?_getD, List.getD_eq_getElem?_getD, List.getElem?_eq_getElem (by omega), List.getElem?_eq_getElem hk] at this
    rw [List.getElem?_eq_getElem (by omega), List.getElem?_eq_getElem hk]
    simpa using this
  · rw [List.getElem?_eq_none (by omega), List.getElem?_eq_none (by omega)]

set_option maxHeartbeats 4000000 in
set_option maxRecDepth 100000 in
theorem within_in (n z : Bs) (w : World) (hn : n.length ≤ 2000000) (hz : z.length ≤ 2000000) :
    Calls Try.prog 23 #[.string (str n), .string (str z)] w fun e w' => e = .returned (.bool (withinS n z)) ∧ Ext w w' := by
  have CA := hid (fun W => labels_in n W hn)
  have CB := hid (fun W => labels_in z W hz)
  obtain ⟨V, hV⟩ : ∃ V, V = withinS n z := ⟨_, rfl⟩
  rw [← hV]
  have HV := hid hV
  clear hV
  by_cases h1 : checkS n = 0
  · by_cases h2 : checkS z = 0
    · obtain ⟨L, hL, hnw, hok, hnl⟩ := labels_good h1
      obtain ⟨Z, hZ, hzw, hokz, hznl⟩ := labels_good h2
      have hv : V = withinL L Z := by rw [HV.out, within_yes h1 h2, hL, hZ]
      have HV := hid hv
      rw [hL] at CA
      rw [hZ] at CB
      have hLn : L.length ≤ 255 := Nat.le_trans wire_len_le (by rw [← hnw]; exact hnl)
      have hZn : Z.length ≤ 255 := Nat.le_trans wire_len_le (by rw [← hzw]; exact hznl)
      have HS := hid (fun s (hs : s ∈ L) (W : World) => lower_in s W (by have := hok s hs; omega))
      have HT := hid (fun s (hs : s ∈ Z) (W : World) => lower_in s W (by have := hokz s hs; omega))
      clear h1 h2 hL hZ hnw hzw hok hokz hv hnl hznl
      simp only at CA CB
      go_enter Try.func23, Try.ntmps23
      go_wp2_with fail
      (with_reducible refine (CA.out _).mono ?_)
      rintro e w1 ⟨A, c, rfl, oA, x1⟩
      have X1 := hid x1
      have OA := hid oA
      clear oA x1
      go_wp2_with fail
      (with_reducible refine (CB.out _).mono ?_)
      rintro e w2 ⟨B, d, rfl, oB, x2⟩
      have X2 := hid (ext_trans X1.out x2)
      have rA := RdG.ext (OwnG.rd OA.out) x2
      have rB := OwnG.rd oB
      have cA9 := rA.c_le
      have cB9 := rB.c_le
      have cAn := rA.cap.1
      have cBn := rB.cap.1
      clear x2 oB OA X1 CA CB
      by_cases hlt : L.length < Z.length
      · have hv : V = false := by
          rw [HV.out]; unfold withinL; rw [decide_eq_false (by omega)]; rfl
        have z1 : decide ((L.length : Int) < (Z.length : Int)) = true := by rw [decide_eq_true_iff]; omega
        have z2 : decide (L.length < Z.length) = true := by rw [decide_eq_true_iff]; omega
        clear rA rB
        go_wp2_with fail
        go_ret
        rw [hv]
        exact ⟨rfl, X2.out⟩
      · have hzl : Z.length ≤ L.length := by omega
        have z1 : decide ((L.length : Int) < (Z.length : Int)) = false := by rw [decide_eq_false_iff_not]; omega
        have z2 : decide (L.length < Z.length) = false := by rw [decide_eq_false_iff_not]; omega
        obtain ⟨i, hi⟩ : ∃ i, i = L.length - Z.length := ⟨_, rfl⟩
        have hi2 : (L.length : Int) - (Z.length : Int) = (i : Int) := by omega
        have hi3 : i ≤ L.length := by omega
        have hi4 : L.length - i = Z.length := by omega
        obtain ⟨A', hA'⟩ : ∃ A' : Option Addr, (if c = i then A else A.map fun x => x.add i) = A' := ⟨_, rfl⟩
        have rC : RdG w2 1 A' Z.length (c - i) ((L.drop i).map strV) := by
          have hcut := RdG.cut rA hi3 (Nat.le_refl _) (A' := A') (fun h => by rw [← hA', if_neg (by omega), Nat.mul_one])
          rw [hi4, Nat.mul_one, Nat.mul_one, List.take_of_length_le (by simp), ← List.map_drop] at hcut
          exact hcut
        have RC := hid rC
        have RB := hid rB
        have HI := hid hi
        clear rA rB rC hi hlt
        go_wp2_with fail
        go_loopw [42] (fun iv wr => ∃ k : Nat, k ≤ Z.length ∧ iv = .int .i64 k ∧ Hid (∀ j, j < k → lower (L.getD (i + j) []) = lower (Z.getD j [])) ∧ Hid (Ext w2 wr)) (fun iv _ => Z.length - (intOf iv).toNat)
        case atStart => exact ⟨0, Nat.zero_le _, rfl, hid (fun j hj => by omega), hid (ext_refl _)⟩
        case round =>
          obtain ⟨k, hk, rfl, HM, XX⟩ := hrel
          by_cases hlt : k < Z.length
          · obtain ⟨b, o, hA0, hb, hc⟩ := RdG.text (w := w2) (A := A') (c := c - i) (L := L.drop i) (by rw [List.length_drop, hi4]; exact RC.out) (k := k) (by simp; omega)
            obtain ⟨b2, o2, hB0, hb2, hc2⟩ := RdG.text RB.out hlt
            clear hA'
            subst hA0
            subst hB0
            obtain ⟨s, hs⟩ : ∃ s, s = L.getD (i + k) [] := ⟨_, rfl⟩
            obtain ⟨t, ht⟩ : ∃ t, t = Z.getD k [] := ⟨_, rfl⟩
            have hsm : s ∈ L := by rw [hs, List.getD_eq_getElem?_getD, List.getElem?_eq_getElem (by omega)]; exact List.getElem_mem _
            have htm : t ∈ Z := by rw [ht, List.getD_eq_getElem?_getD, List.getElem?_eq_getElem hlt]; exact List.getElem_mem _
            have LS := hid (HS.out s hsm)
            have LT := hid (HT.out t htm)
            have hse : (L.drop i).getD k [] = s := by rw [hs]; simp [List.getD_eq_getElem?_getD]
            rw [hse] at hc
            rw [← ht] at hc2
            have hcs : wr.cell? ⟨b, o + k, none⟩ = some (.string (str s)) := (XX.out.cell (p := ⟨b, o + k, none⟩) hb).trans hc
            have hct : wr.cell? ⟨b2, o2 + k, none⟩ = some (.string (str t)) := (XX.out.cell (p := ⟨b2, o2 + k, none⟩) hb2).trans hc2
            have CN := hid (fun W (hW : Ext w2 W) => (hW.cell (p := ⟨b2, o2 + k, none⟩) hb2).trans hc2)
            have hk1 : (k : Int) < (Z.length : Int) := by omega
            have HEq := hid (And.intro hs ht)
            obtain ⟨ts, hts⟩ : ∃ x, x = str s := ⟨_, rfl⟩
            obtain ⟨tt, htt⟩ : ∃ x, x = str t := ⟨_, rfl⟩
            obtain ⟨ls, hls⟩ : ∃ x, x = str (lower s) := ⟨_, rfl⟩
            obtain ⟨lt, hlt'⟩ : ∃ x, x = str (lower t) := ⟨_, rfl⟩
            rw [← hts] at LS hcs
            rw [← htt] at LT hct CN
            rw [← hls] at LS
            rw [← hlt'] at LT
            have hq : (ls.toList == lt.toList) = (lower s == lower t) := by rw [hls, hlt', str_toList, str_toList]
            clear hs ht hsm htm hse hc hc2 hts htt hls hlt'
            by_cases he : lower s = lower t
            · have q1 : (ls.toList == lt.toList) = true := by rw [hq]; simpa using he
              have q2 : (ls.toList != lt.toList) = false := by simp [bne, q1]
              have hm : Hid (∀ j, j < k + 1 → lower (L.getD (i + j) []) = lower (Z.getD j [])) := by
                refine hid fun j hj => ?_
                rcases Nat.lt_succ_iff_lt_or_eq.1 hj with h | rfl
                · exact HM.out j h
                · rw [← HEq.out.1, ← HEq.out.2]; exact he
              clear hq he
              go_wp2_with fail
              have hS : (wr.drew).cell? ⟨b2, o2 + k, none⟩ = some (.string tt) := CN.out _ (ext_trans XX.out (ext_drew wr))
              have XX := hid (ext_trans XX.out (ext_drew wr))
              go_region_held3 (fun w' => w'.cell? ⟨b2, o2 + k, none⟩ = some (.string tt)) (go_keep) ((go_at_call 26; first | ((with_reducible refine (LS.out _).mono ?_); rintro e w5 ⟨rfl, x5⟩; have XX := hid (ext_trans XX.out x5); have k5 : w5.cell? ⟨b2, o2 + k, none⟩ = some (.string tt) := CN.out _ XX.out; clear x5) | ((with_reducible refine (LT.out _).mono ?_); rintro e w5 ⟨rfl, x5⟩; have XX := hid (ext_trans XX.out x5); have k5 : w5.cell? ⟨b2, o2 + k, none⟩ = some (.string tt) := CN.out _ XX.out; clear x5)))
              all_goals (clear hS)
              all_goals (go_wp2_with fail)
              all_goals exact ⟨⟨k + 1, by omega, by go_num, hm, XX⟩, by simp [intOf]; omega⟩
            · have q1 : (ls.toList == lt.toList) = false := by rw [hq]; simpa using he
              have q2 : (ls.toList != lt.toList) = true := by simp [bne, q1]
              have hv : V = false := by
                rw [HV.out]
                refine within_false_at hzl hlt ?_
                rw [← HI.out, ← HEq.out.1, ← HEq.out.2]; exact he
              clear hq he
              go_wp2_with fail
              have hS : (wr.drew).cell? ⟨b2, o2 + k, none⟩ = some (.string tt) := CN.out _ (ext_trans XX.out (ext_drew wr))
              have XX := hid (ext_trans XX.out (ext_drew wr))
              go_region_held3 (fun w' => w'.cell? ⟨b2, o2 + k, none⟩ = some (.string tt)) (go_keep) ((go_at_call 26; first | ((with_reducible refine (LS.out _).mono ?_); rintro e w5 ⟨rfl, x5⟩; have XX := hid (ext_trans XX.out x5); have k5 : w5.cell? ⟨b2, o2 + k, none⟩ = some (.string tt) := CN.out _ XX.out; clear x5) | ((with_reducible refine (LT.out _).mono ?_); rintro e w5 ⟨rfl, x5⟩; have XX := hid (ext_trans XX.out x5); have k5 : w5.cell? ⟨b2, o2 + k, none⟩ = some (.string tt) := CN.out _ XX.out; clear x5)))
              all_goals (clear hS)
              all_goals (go_wp2_with fail)
              all_goals go_ret
              all_goals (rw [hv]; exact ⟨rfl, ext_trans X2.out XX.out⟩)
          · obtain rfl : k = Z.length := by omega
            have hv : V = true := by
              rw [HV.out]
              exact within_true_all hzl fun j hj => by rw [← HI.out]; exact HM.out j hj
            clear hlt hk
            go_wp2_with fail
            go_ret
            rw [hv]
            exact ⟨rfl, ext_trans X2.out XX.out⟩
    · have hv : V = false := by rw [HV.out]; exact within_no fun h => h2 h.2
      obtain ⟨L, hL, hx1, hx2, hnl⟩ := labels_good h1
      clear hx1 hx2
      rw [hL] at CA
      have hz0 := labels_bad h2
      obtain ⟨E, hE⟩ : ∃ E, E = (labelsS z).2 := ⟨_, rfl⟩
      have hzE : labelsS z = ([], E) := by rw [hE, ← hz0]
      rw [hzE] at CB
      have y1 : (E != 0) = true := by rw [hE]; unfold checkS at h2; simpa using h2
      clear h1 h2 hL hnl hz0 hE hzE HV
      simp only at CA CB
      go_enter Try.func23, Try.ntmps23
      go_wp2_with fail
      (with_reducible refine (CA.out _).mono ?_)
      rintro e w1 ⟨A, c, rfl, oA, x1⟩
      have X1 := hid x1
      clear oA x1
      go_wp2_with fail
      (with_reducible refine (CB.out _).mono ?_)
      rintro e w2 ⟨B, d, rfl, oB, x2⟩
      have X2 := hid (ext_trans X1.out x2)
      clear x2 oB
      go_wp2_with fail
      go_ret
      rw [hv]
      exact ⟨rfl, X2.out⟩
  · have hv : V = false := by rw [HV.out]; exact within_no fun h => h1 h.1
    have hn0 := labels_bad h1
    obtain ⟨E, hE⟩ : ∃ E, E = (labelsS n).2 := ⟨_, rfl⟩
    have hnE : labelsS n = ([], E) := by rw [hE, ← hn0]
    rw [hnE] at CA
    have y1 : (E != 0) = true := by rw [hE]; unfold checkS at h1; simpa using h1
    obtain ⟨R, hR⟩ : ∃ R, R = labelsS z := ⟨_, rfl⟩
    rw [← hR] at CB
    obtain ⟨Z, F⟩ := R
    clear h1 hn0 hE hnE HV hR
    simp only at CA CB
    go_enter Try.func23, Try.ntmps23
    go_wp2_with fail
    (with_reducible refine (CA.out _).mono ?_)
    rintro e w1 ⟨A, c, rfl, oA, x1⟩
    have X1 := hid x1
    clear oA x1
    go_wp2_with fail
    (with_reducible refine (CB.out _).mono ?_)
    rintro e w2 ⟨B, d, rfl, oB, x2⟩
    have X2 := hid (ext_trans X1.out x2)
    clear x2 oB
    go_wp2_with fail
    go_ret
    rw [hv]
    exact ⟨rfl, X2.out⟩

set_option maxHeartbeats 4000000 in
set_option maxRecDepth 100000 in
theorem ref_within (n z : Bs) (w : World) (hn : n.length ≤ 2000000) (hz : z.length ≤ 2000000) :
    Calls Try.prog 30 #[.string (str n), .string (str z)] w fun e w' => e = .returned (.bool (withinS n z)) ∧ Ext w w' := by
  have CA := hid (fun W => ref_labels n W hn)
  have CB := hid (fun W => ref_labels z W hz)
  obtain ⟨V, hV⟩ : ∃ V, V = withinS n z := ⟨_, rfl⟩
  rw [← hV]
  have HV := hid hV
  clear hV
  by_cases h1 : checkS n = 0
  · by_cases h2 : checkS z = 0
    · obtain ⟨L, hL, hnw, hok, hnl⟩ := labels_good h1
      obtain ⟨Z, hZ, hzw, hokz, hznl⟩ := labels_good h2
      have hv : V = withinL L Z := by rw [HV.out, within_yes h1 h2, hL, hZ]
      have HV := hid hv
      rw [hL] at CA
      rw [hZ] at CB
      have hLn : L.length ≤ 255 := Nat.le_trans wire_len_le (by rw [← hnw]; exact hnl)
      have hZn : Z.length ≤ 255 := Nat.le_trans wire_len_le (by rw [← hzw]; exact hznl)
      have HLE := hid hnl
      have HNW := hid hnw
      have HZW := hid hzw
      have HOK := hid hok
      have HOKZ := hid hokz
      have LZ := hid (fun W => ref_lower z W hz)
      clear h1 h2 hL hZ hnw hzw hok hokz hv hnl hznl
      simp only at CA CB
      go_enter Try.func30, Try.ntmps30
      go_wp2_with fail
      (with_reducible refine (CA.out _).mono ?_)
      rintro e w1 ⟨A, c, rfl, oA, x1⟩
      have X1 := hid x1
      have OA := hid oA
      clear oA x1
      go_wp2_with fail
      (with_reducible refine (CB.out _).mono ?_)
      rintro e w2 ⟨B, d, rfl, oB, x2⟩
      have X2 := hid (ext_trans X1.out x2)
      have rA := RdG.ext (OwnG.rd OA.out) x2
      have cA9 := rA.c_le
      have cAn := rA.cap.1
      clear x2 oB OA X1 CA CB
      by_cases hlt : L.length < Z.length
      · have hv : V = false := by
          rw [HV.out]; unfold withinL; rw [decide_eq_false (by omega)]; rfl
        have z1 : decide ((L.length : Int) < (Z.length : Int)) = true := by rw [decide_eq_true_iff]; omega
        have z2 : decide (L.length < Z.length) = true := by rw [decide_eq_true_iff]; omega
        clear rA
        go_wp2_with fail
        go_ret
        rw [hv]
        exact ⟨rfl, X2.out⟩
      · have hzl : Z.length ≤ L.length := by omega
        have z1 : decide ((L.length : Int) < (Z.length : Int)) = false := by rw [decide_eq_false_iff_not]; omega
        have z2 : decide (L.length < Z.length) = false := by rw [decide_eq_false_iff_not]; omega
        obtain ⟨i, hi⟩ : ∃ i, i = L.length - Z.length := ⟨_, rfl⟩
        have hi2 : (L.length : Int) - (Z.length : Int) = (i : Int) := by omega
        have hi3 : i ≤ L.length := by omega
        have hi4 : L.length - i = Z.length := by omega
        obtain ⟨A', hA'⟩ : ∃ A' : Option Addr, (if c = i then A else A.map fun x => x.add i) = A' := ⟨_, rfl⟩
        obtain ⟨D, hD⟩ : ∃ D, D = L.drop i := ⟨_, rfl⟩
        have hDl : D.length = Z.length := by rw [hD, List.length_drop, hi4]
        have rC : RdG w2 1 A' D.length (c - i) (D.map strV) := by
          have hcut := RdG.cut rA hi3 (Nat.le_refl _) (A' := A') (fun h => by rw [← hA', if_neg (by omega), Nat.mul_one])
          rw [Nat.mul_one, Nat.mul_one, List.take_of_length_le (by simp), ← List.map_drop, ← hD, hi4, ← hDl] at hcut
          exact hcut
        have hokD : okL D := fun s hs => HOK.out s (by rw [hD] at hs; exact List.mem_of_mem_drop hs)
        have hDw : (wire D).length ≤ 255 := by
          have h9 := HLE.out
          rw [HNW.out, ← List.take_append_drop i L, wire_append, ← hD] at h9
          simp at h9
          omega
        have hj : joinS D = (wire D, 0) := by unfold joinS; rw [if_pos (joinE_ok.2 hokD), if_neg (by omega)]
        have CJ := hid (ref_join rC (fun s hs => by have := hokD s hs; omega))
        rw [hj, hDl] at CJ
        have LD := hid (fun W => ref_lower (wire D) W (by omega))
        have hq : (lower (wire D) == lower z) = V := by
          rw [HV.out]
          unfold withinL
          rw [decide_eq_true hzl, Bool.true_and, ← hi, ← hD, HZW.out, lower_wire hokD, lower_wire HOKZ.out, Bool.eq_iff_iff, beq_iff_eq, decide_eq_true_iff]
          exact ⟨wire_inj (okL_lower hokD) (okL_lower HOKZ.out), fun e => by rw [e]⟩
        obtain ⟨ls, hls⟩ : ∃ x, x = str (lower (wire D)) := ⟨_, rfl⟩
        obtain ⟨lt, hlt'⟩ : ∃ x, x = str (lower z) := ⟨_, rfl⟩
        rw [← hls] at LD
        rw [← hlt'] at LZ
        have hq2 : (ls.toList == lt.toList) = V := by rw [hls, hlt', str_toList, str_toList]; exact hq
        simp only at CJ
        clear rA rC hi hlt hD hDl hokD hDw hj hq hls hlt'
        go_wp2_with fail
        (with_reducible refine CJ.out.mono ?_)
        rintro e w3 ⟨rfl, x3⟩
        have X3 := hid (ext_trans X2.out x3)
        clear x3
        go_wp2_with fail
        (with_reducible refine (LD.out _).mono ?_)
        rintro e w4 ⟨rfl, x4⟩
        have X4 := hid (ext_trans X3.out x4)
        clear x4
        go_wp2_with fail
        (with_reducible refine (LZ.out _).mono ?_)
        rintro e w5 ⟨rfl, x5⟩
        have X5 := hid (ext_trans X4.out x5)
        clear x5
        go_wp2_with fail
        go_ret
        exact ⟨rfl, X5.out⟩
    · have hv : V = false := by rw [HV.out]; exact within_no fun h => h2 h.2
      obtain ⟨L, hL, hx1, hx2, hnl⟩ := labels_good h1
      clear hx1 hx2
      rw [hL] at CA
      have hz0 := labels_bad h2
      obtain ⟨E, hE⟩ : ∃ E, E = (labelsS z).2 := ⟨_, rfl⟩
      have hzE : labelsS z = ([], E) := by rw [hE, ← hz0]
      rw [hzE] at CB
      have y1 : (E != 0) = true := by rw [hE]; unfold checkS at h2; simpa using h2
      clear h1 h2 hL hnl hz0 hE hzE HV
      simp only at CA CB
      go_enter Try.func30, Try.ntmps30
      go_wp2_with fail
      (with_reducible refine (CA.out _).mono ?_)
      rintro e w1 ⟨A, c, rfl, oA, x1⟩
      have X1 := hid x1
      clear oA x1
      go_wp2_with fail
      (with_reducible refine (CB.out _).mono ?_)
      rintro e w2 ⟨B, d, rfl, oB, x2⟩
      have X2 := hid (ext_trans X1.out x2)
      clear x2 oB
      go_wp2_with fail
      go_ret
      rw [hv]
      exact ⟨rfl, X2.out⟩
  · have hv : V = false := by rw [HV.out]; exact within_no fun h => h1 h.1
    have hn0 := labels_bad h1
    obtain ⟨E, hE⟩ : ∃ E, E = (labelsS n).2 := ⟨_, rfl⟩
    have hnE : labelsS n = ([], E) := by rw [hE, ← hn0]
    rw [hnE] at CA
    have y1 : (E != 0) = true := by rw [hE]; unfold checkS at h1; simpa using h1
    obtain ⟨R, hR⟩ : ∃ R, R = labelsS z := ⟨_, rfl⟩
    rw [← hR] at CB
    obtain ⟨Z, F⟩ := R
    clear h1 hn0 hE hnE HV hR
    simp only at CA CB
    go_enter Try.func30, Try.ntmps30
    go_wp2_with fail
    (with_reducible refine (CA.out _).mono ?_)
    rintro e w1 ⟨A, c, rfl, oA, x1⟩
    have X1 := hid x1
    clear oA x1
    go_wp2_with fail
    (with_reducible refine (CB.out _).mono ?_)
    rintro e w2 ⟨B, d, rfl, oB, x2⟩
    have X2 := hid (ext_trans X1.out x2)
    clear x2 oB
    go_wp2_with fail
    go_ret
    rw [hv]
    exact ⟨rfl, X2.out⟩
end Go.Proofs.Ytcgcadhnecakaaa

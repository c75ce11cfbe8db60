/- name.Compare, and the document's: which name is ahead. -/
import Derived.Test.YtcgcadhnecakaaaNamW
import Derived.IntWalk
namespace Go.Proofs.Ytcgcadhnecakaaa
open Go.BK Go.RowKit Go.BK.NM
set_option linter.unusedVariables false

def compareS (a b : Bs) : Int := if checkS a = 0 ∧ checkS b = 0 then cmpN (labelsS a).1 (labelsS b).1 else 0

theorem compare_bytes : ∀ a b : Bs, Lib.compareBytes a b = cmpS a b := by
  intro a
  induction a with
  | nil => intro b; cases b <;> rfl
  | cons x a ih =>
    intro b
    cases b with
    | nil => rfl
    | cons y b =>
      show (if x < y then (-1 : Int) else if y < x then 1 else Lib.compareBytes a b) = if fB x y = 0 then cmpLex fB a b else fB x y
      rw [ih b]
      unfold fB
      by_cases h1 : x.toNat < y.toNat
      · have e1 : x < y := UInt8.lt_iff_toNat_lt.2 h1
        simp [h1, e1]
      · have e1 : ¬ x < y := fun h => h1 (UInt8.lt_iff_toNat_lt.1 h)
        by_cases h2 : y.toNat < x.toNat
        · have e2 : y < x := UInt8.lt_iff_toNat_lt.2 h2
          simp [h1, h2, e1, e2]
        · have e2 : ¬ y < x := fun h => h2 (UInt8.lt_iff_toNat_lt.1 h)
          simp [h1, h2, e1, e2]; rfl
theorem bytes_less : ∀ a b : Bs, Op.bytesLess a b = decide (cmpS a b = -1) := by
  intro a
  induction a with
  | nil => intro b; cases b <;> rfl
  | cons x a ih =>
    intro b
    cases b with
    | nil => rfl
    | cons y b =>
      show (x < y || (x == y && Op.bytesLess a b)) = decide ((if fB x y = 0 then cmpLex fB a b else fB x y) = -1)
      rw [ih b]
      unfold fB
      by_cases h1 : x.toNat < y.toNat
      · have : x < y := UInt8.lt_iff_toNat_lt.2 h1
        simp [h1, this]
      · have e1 : ¬ x < y := fun h => h1 (UInt8.lt_iff_toNat_lt.1 h)
        by_cases h2 : y.toNat < x.toNat
        · have : x ≠ y := by rintro rfl; omega
          simp [h1, h2, e1, this]
        · have : x = y := by rw [← UInt8.toNat_inj]; omega
          subst this
          simp [h1, e1]
          rfl

theorem keyL_length (L : List Bs) : (keyL L).length = L.length := by simp [keyL]
theorem keyL_drop {L : List Bs} {p : Nat} (h1 : 1 ≤ p) (h2 : p ≤ L.length) : (keyL L).drop (p - 1) = lower (L.getD (L.length - p) []) :: (keyL L).drop p := by
  have hl : p - 1 < (keyL L).length := by rw [keyL_length]; omega
  rw [List.drop_eq_getElem_cons hl, show p - 1 + 1 = p from by omega]
  congr 1
  apply Option.some.inj
  rw [← List.getElem?_eq_getElem]
  unfold keyL
  rw [List.getElem?_map, List.getElem?_reverse (by omega), show L.length - 1 - (p - 1) = L.length - p from by omega, List.getElem?_eq_getElem (by omega), List.getD_eq_getElem?_getD, List.getElem?_eq_getElem (by omega)]
  rfl
theorem keyL_end {L : List Bs} {p : Nat} (h : L.length ≤ p) : (keyL L).drop p = [] := List.drop_of_length_le (by rw [keyL_length]; exact h)

def restC (L M : List Bs) (p : Nat) : Int := cmpLex cmpS ((keyL L).drop (p - 1)) ((keyL M).drop (p - 1))
theorem restC_start (L M : List Bs) : cmpN L M = restC L M 1 := rfl
theorem restC_ne {L M : List Bs} {p : Nat} (h1 : 1 ≤ p) (h2 : p ≤ L.length) (h3 : p ≤ M.length) (h : cmpS (lower (L.getD (L.length - p) [])) (lower (M.getD (M.length - p) [])) ≠ 0) :
    restC L M p = cmpS (lower (L.getD (L.length - p) [])) (lower (M.getD (M.length - p) [])) := by
  unfold restC
  rw [keyL_drop h1 h2, keyL_drop h1 h3]
  show (if _ = 0 then _ else _) = _
  rw [if_neg h]
theorem restC_eq {L M : List Bs} {p : Nat} (h1 : 1 ≤ p) (h2 : p ≤ L.length) (h3 : p ≤ M.length) (h : cmpS (lower (L.getD (L.length - p) [])) (lower (M.getD (M.length - p) [])) = 0) :
    restC L M p = restC L M (p + 1) := by
  unfold restC
  rw [keyL_drop h1 h2, keyL_drop h1 h3]
  show (if _ = 0 then _ else _) = _
  rw [if_pos h]
  rfl
theorem restC_end {L M : List Bs} {p : Nat} (h1 : 1 ≤ p) (h2 : p ≤ L.length + 1) (h3 : p ≤ M.length + 1) (h : p = L.length + 1 ∨ p = M.length + 1) :
    restC L M p = if L.length < M.length then -1 else if M.length < L.length then 1 else 0 := by
  unfold restC
  by_cases hL : p = L.length + 1
  · rw [keyL_end (L := L) (by omega)]
    by_cases hM : M.length < p
    · rw [keyL_end (by omega), if_neg (by omega), if_neg (by omega)]; rfl
    · rw [keyL_drop h1 (by omega), if_pos (by omega)]; rfl
  · have hM : p = M.length + 1 := by omega
    rw [keyL_end (L := M) (by omega), keyL_drop h1 (by omega), if_neg (by omega), if_pos (by omega)]
    rfl

set_option maxHeartbeats 4000000 in
set_option maxRecDepth 100000 in
theorem compare_in (a b : Bs) (w : World) (ha : a.length ≤ 2000000) (hb : b.length ≤ 2000000) :
    Calls Try.prog 31 #[.string (str a), .string (str b)] w fun e w' => e = .returned (.int .i64 (compareS a b)) ∧ Ext w w' := by
  have CA := hid (fun W => labels_in a W ha)
  have CB := hid (fun W => labels_in b W hb)
  obtain ⟨V, hV⟩ : ∃ V, V = compareS a b := ⟨_, rfl⟩
  rw [← hV]
  have HV := hid hV
  clear hV
  by_cases h1 : checkS a = 0
  · by_cases h2 : checkS b = 0
    · obtain ⟨L, hL, hnw, hok, hnl⟩ := labels_good h1
      obtain ⟨Z, hZ, hzw, hokz, hznl⟩ := labels_good h2
      have hv : V = restC L Z 1 := by rw [HV.out]; unfold compareS; rw [if_pos ⟨h1, h2⟩, hL, hZ]; rfl
      have HV := hid hv
      rw [hL] at CA
      rw [hZ] at CB
      have hLn : L.length ≤ 255 := Nat.le_trans wire_len_le (by rw [← hnw]; exact hnl)
      have hZn : Z.length ≤ 255 := Nat.le_trans wire_len_le (by rw [← hzw]; exact hznl)
      have HS := hid (fun s (hs : s ∈ L) (W : World) => lower_in s W (by have := hok s hs; omega))
      have HT := hid (fun s (hs : s ∈ Z) (W : World) => lower_in s W (by have := hokz s hs; omega))
      clear h1 h2 hL hZ hnw hzw hok hokz hv hnl hznl
      simp only at CA CB
      go_enter Try.func31, Try.ntmps31
      go_wp2_with fail
      (with_reducible refine (CA.out _).mono ?_)
      rintro e w1 ⟨A, c, rfl, oA, x1⟩
      have X1 := hid x1
      have OA := hid oA
      clear oA x1
      go_wp2_with fail
      (with_reducible refine (CB.out _).mono ?_)
      rintro e w2 ⟨B, d, rfl, oB, x2⟩
      have X2 := hid (ext_trans X1.out x2)
      have rA := RdG.ext (OwnG.rd OA.out) x2
      have rB := OwnG.rd oB
      have cA9 := rA.c_le
      have cB9 := rB.c_le
      have RA := hid rA
      have RB := hid rB
      clear x2 oB OA X1 CA CB rA rB
      go_wp2_with fail
      go_loopw [9] (fun iv wr => ∃ p : Nat, 1 ≤ p ∧ p ≤ L.length + 1 ∧ p ≤ Z.length + 1 ∧ iv = .int .i64 p ∧ Hid (V = restC L Z p) ∧ Hid (Ext w2 wr)) (fun iv _ => L.length + 1 - (intOf iv).toNat)
      case atStart => exact ⟨1, Nat.le_refl _, by omega, by omega, rfl, HV, hid (ext_refl _)⟩
      case round =>
        obtain ⟨p, hp1, hpL, hpZ, rfl, HP, XX⟩ := hrel
        by_cases hlt : p ≤ L.length ∧ p ≤ Z.length
        · obtain ⟨hl1, hl2⟩ := hlt
          obtain ⟨b1, o, hA0, hb, hc⟩ := RdG.text RA.out (k := L.length - p) (by omega)
          obtain ⟨b2, o2, hB0, hb2, hc2⟩ := RdG.text RB.out (k := Z.length - p) (by omega)
          subst hA0
          subst hB0
          obtain ⟨s, hs⟩ : ∃ s, s = L.getD (L.length - p) [] := ⟨_, rfl⟩
          obtain ⟨t, ht⟩ : ∃ t, t = Z.getD (Z.length - p) [] := ⟨_, rfl⟩
          have hsm : s ∈ L := by rw [hs, List.getD_eq_getElem?_getD, List.getElem?_eq_getElem (by omega)]; exact List.getElem_mem _
          have htm : t ∈ Z := by rw [ht, List.getD_eq_getElem?_getD, List.getElem?_eq_getElem (by omega)]; exact List.getElem_mem _
          have LS := hid (HS.out s hsm)
          have LT := hid (HT.out t htm)
          have hne := hid (restC_ne hp1 hl1 hl2)
          have heq := hid (restC_eq hp1 hl1 hl2)
          rw [← hs, ← ht] at hne heq
          rw [← hs] at hc
          rw [← ht] at hc2
          obtain ⟨j1, hj1⟩ : ∃ j, j = L.length - p := ⟨_, rfl⟩
          obtain ⟨j2, hj2⟩ : ∃ j, j = Z.length - p := ⟨_, rfl⟩
          rw [← hj1] at hc
          rw [← hj2] at hc2
          have v1 : IntKind.i64.wrap ((L.length : Int) - (p : Int)) = (j1 : Int) := by rw [show (L.length : Int) - (p : Int) = (j1 : Int) from by omega]; exact IntWalk.i64_in _ (by omega)
          have v2 : IntKind.i64.wrap ((Z.length : Int) - (p : Int)) = (j2 : Int) := by rw [show (Z.length : Int) - (p : Int) = (j2 : Int) from by omega]; exact IntWalk.i64_in _ (by omega)
          have v3 : wrap64 ((L.length : Int) - (p : Int)) = (j1 : Int) := by unfold wrap64; omega
          have v4 : wrap64 ((Z.length : Int) - (p : Int)) = (j2 : Int) := by unfold wrap64; omega
          have i3 : (j1 : Int) < (L.length : Int) := by omega
          have i4 : (j2 : Int) < (Z.length : Int) := by omega
          have z1 : decide ((p : Int) ≤ (L.length : Int)) = true := by rw [decide_eq_true_iff]; omega
          have z2 : decide ((p : Int) ≤ (Z.length : Int)) = true := by rw [decide_eq_true_iff]; omega
          have z3 : decide (p ≤ L.length) = true := by rw [decide_eq_true_iff]; omega
          have z4 : decide (p ≤ Z.length) = true := by rw [decide_eq_true_iff]; omega
          have hcs : wr.cell? ⟨b1, o + j1, none⟩ = some (.string (str s)) := (XX.out.cell (p := ⟨b1, o + j1, none⟩) hb).trans hc
          have hct : wr.cell? ⟨b2, o2 + j2, none⟩ = some (.string (str t)) := (XX.out.cell (p := ⟨b2, o2 + j2, none⟩) hb2).trans hc2
          have CN := hid (fun W (hW : Ext w2 W) => And.intro ((hW.cell (p := ⟨b1, o + j1, none⟩) hb).trans hc) ((hW.cell (p := ⟨b2, o2 + j2, none⟩) hb2).trans hc2))
          obtain ⟨ts, hts⟩ : ∃ x, x = str s := ⟨_, rfl⟩
          obtain ⟨tt, htt⟩ : ∃ x, x = str t := ⟨_, rfl⟩
          obtain ⟨ls, hls⟩ : ∃ x, x = str (lower s) := ⟨_, rfl⟩
          obtain ⟨lt, hlt'⟩ : ∃ x, x = str (lower t) := ⟨_, rfl⟩
          have CC := hid (fun W => Try.strings_Compare ls lt W)
          have hcc : Lib.compareBytes ls.data.toList lt.data.toList = cmpS (lower s) (lower t) := by rw [hls, hlt', str_data, str_data, compare_bytes]
          rw [hcc] at CC
          rw [← hts] at LS hcs CN
          rw [← htt] at LT hct CN
          rw [← hls] at LS
          rw [← hlt'] at LT
          clear hs ht hsm htm hc hc2 hts htt hls hlt' hj1 hj2 hcc
          generalize cmpS (lower s) (lower t) = E at *
          have hpm : p ≤ 255 := by omega
          by_cases he : E = 0
          · subst he
            go_wp2_with fail
            have hS := CN.out _ (ext_trans XX.out (ext_drew wr))
            have hS1 := hS.1
            have hS2 := hS.2
            have XX := hid (ext_trans XX.out (ext_drew wr))
            go_region_held3 (fun w' => w'.cell? ⟨b1, o + j1, none⟩ = some (.string ts) ∧ w'.cell? ⟨b2, o2 + j2, none⟩ = some (.string tt)) (go_keep) ((first | (go_at_call 26; first | ((with_reducible refine (LS.out _).mono ?_); rintro e w5 ⟨rfl, x5⟩; have XX := hid (ext_trans XX.out x5); have k5 := CN.out _ XX.out; clear x5) | ((with_reducible refine (LT.out _).mono ?_); rintro e w5 ⟨rfl, x5⟩; have XX := hid (ext_trans XX.out x5); have k5 := CN.out _ XX.out; clear x5)) | (go_at_call 41; (with_reducible refine (CC.out _).mono ?_); rintro e w5 ⟨rfl, x5⟩; subst x5)))
            all_goals (clear hS hS1 hS2)
            all_goals (go_wp2_with fail)
            all_goals exact ⟨⟨p + 1, by omega, by omega, by omega, by go_num, hid (HP.out.trans (heq.out (by first | exact rfl | trivial))), XX⟩, by simp [intOf]; omega⟩
          · have y1 : (E != 0) = true := by simpa using he
            have hv : V = E := HP.out.trans (hne.out he)
            go_wp2_with fail
            have hS := CN.out _ (ext_trans XX.out (ext_drew wr))
            have hS1 := hS.1
            have hS2 := hS.2
            have XX := hid (ext_trans XX.out (ext_drew wr))
            go_region_held3 (fun w' => w'.cell? ⟨b1, o + j1, none⟩ = some (.string ts) ∧ w'.cell? ⟨b2, o2 + j2, none⟩ = some (.string tt)) (go_keep) ((first | (go_at_call 26; first | ((with_reducible refine (LS.out _).mono ?_); rintro e w5 ⟨rfl, x5⟩; have XX := hid (ext_trans XX.out x5); have k5 := CN.out _ XX.out; clear x5) | ((with_reducible refine (LT.out _).mono ?_); rintro e w5 ⟨rfl, x5⟩; have XX := hid (ext_trans XX.out x5); have k5 := CN.out _ XX.out; clear x5)) | (go_at_call 41; (with_reducible refine (CC.out _).mono ?_); rintro e w5 ⟨rfl, x5⟩; subst x5)))
            all_goals (clear hS hS1 hS2)
            all_goals (go_wp2_with fail)
            all_goals go_ret
            all_goals (rw [hv]; exact ⟨rfl, ext_trans X2.out XX.out⟩)
        · have hend : p = L.length + 1 ∨ p = Z.length + 1 := by omega
          have hv := HP.out.trans (restC_end hp1 hpL hpZ hend)
          have HVE := hid hv
          obtain ⟨q, hq⟩ : ∃ q : Int, q = (L.length : Int) - (Z.length : Int) := ⟨_, rfl⟩
          have hq1 : (L.length : Int) - (Z.length : Int) = q := hq.symm
          have v0 : IntKind.i64.wrap q = q := IntWalk.i64_in _ (by omega)
          clear hv hq
          have hm := hid (show min 1 (max (-1) q) = V from by rw [HVE.out]; split <;> (try split) <;> omega)
          by_cases hcase : p = L.length + 1
          · have c1 : decide ((p : Int) ≤ (L.length : Int)) = false := by rw [decide_eq_false_iff_not]; omega
            have c2 : decide (p ≤ L.length) = false := by rw [decide_eq_false_iff_not]; omega
            clear HP HVE hend hlt
            go_wp2_with fail
            go_ret
            exact ⟨congrArg (fun v => Ending.returned (Value.int IntKind.i64 v)) hm.out, ext_trans X2.out XX.out⟩
          · have c1 : decide ((p : Int) ≤ (L.length : Int)) = true := by rw [decide_eq_true_iff]; omega
            have c2 : decide (p ≤ L.length) = true := by rw [decide_eq_true_iff]; omega
            have c3 : decide ((p : Int) ≤ (Z.length : Int)) = false := by rw [decide_eq_false_iff_not]; omega
            have c4 : decide (p ≤ Z.length) = false := by rw [decide_eq_false_iff_not]; omega
            clear HP HVE hend hlt
            go_wp2_with fail
            go_ret
            exact ⟨congrArg (fun v => Ending.returned (Value.int IntKind.i64 v)) hm.out, ext_trans X2.out XX.out⟩
    · have hv : V = 0 := by rw [HV.out]; unfold compareS; rw [if_neg (fun h => h2 h.2)]
      obtain ⟨L, hL, hx1, hx2, hnl⟩ := labels_good h1
      clear hx1 hx2
      rw [hL] at CA
      have hz0 := labels_bad h2
      obtain ⟨E, hE⟩ : ∃ E, E = (labelsS b).2 := ⟨_, rfl⟩
      have hzE : labelsS b = ([], E) := by rw [hE, ← hz0]
      rw [hzE] at CB
      have y1 : (E != 0) = true := by rw [hE]; unfold checkS at h2; simpa using h2
      clear h1 h2 hL hnl hz0 hE hzE HV
      simp only at CA CB
      go_enter Try.func31, Try.ntmps31
      go_wp2_with fail
      (with_reducible refine (CA.out _).mono ?_)
      rintro e w1 ⟨A, c, rfl, oA, x1⟩
      have X1 := hid x1
      clear oA x1
      go_wp2_with fail
      (with_reducible refine (CB.out _).mono ?_)
      rintro e w2 ⟨B, d, rfl, oB, x2⟩
      have X2 := hid (ext_trans X1.out x2)
      clear x2 oB
      go_wp2_with fail
      go_ret
      rw [hv]
      exact ⟨rfl, X2.out⟩
  · have hv : V = 0 := by rw [HV.out]; unfold compareS; rw [if_neg (fun h => h1 h.1)]
    have ha0 := labels_bad h1
    obtain ⟨E, hE⟩ : ∃ E, E = (labelsS a).2 := ⟨_, rfl⟩
    have haE : labelsS a = ([], E) := by rw [hE, ← ha0]
    rw [haE] at CA
    have y1 : (E != 0) = true := by rw [hE]; unfold checkS at h1; simpa using h1
    obtain ⟨R, hR⟩ : ∃ R, R = labelsS b := ⟨_, rfl⟩
    rw [← hR] at CB
    obtain ⟨Z, F⟩ := R
    clear h1 ha0 hE haE HV hR
    simp only at CA CB
    go_enter Try.func31, Try.ntmps31
    go_wp2_with fail
    (with_reducible refine (CA.out _).mono ?_)
    rintro e w1 ⟨A, c, rfl, oA, x1⟩
    have X1 := hid x1
    clear oA x1
    go_wp2_with fail
    (with_reducible refine (CB.out _).mono ?_)
    rintro e w2 ⟨B, d, rfl, oB, x2⟩
    have X2 := hid (ext_trans X1.out x2)
    clear x2 oB
    go_wp2_with fail
    go_ret
    rw [hv]
    exact ⟨rfl, X2.out⟩

theorem lowB_big {c : UInt8} (h : 63 < c.toNat) : 63 < (lowB c).toNat := by
  by_cases hu : 65 ≤ c.toNat ∧ c.toNat ≤ 90
  · rw [low_up hu]; omega
  · rw [low_no hu]; exact h
theorem labS_lower : ∀ n : Bs, labS (lower n) = (labS n).map (List.map lower) := by
  intro n
  induction hk : n.length using Nat.strongRecOn generalizing n with
  | _ k ih =>
    rcases n with _ | ⟨c, r⟩
    · show labS [] = (labS []).map _; rw [labS_nil]; rfl
    · subst hk
      show labS (lowB c :: lower r) = _
      by_cases h63 : c.toNat ≤ 63
      · rw [lowB_small h63]
        by_cases h0 : c = 0
        · subst h0
          by_cases hr : r = []
          · subst hr; show labS [0] = _; rw [labS_root]; rfl
          · have hr2 : lower r ≠ [] := fun e => hr (List.map_eq_nil_iff.1 e)
            rw [labS_zero hr, labS_zero hr2]; rfl
        · by_cases h2 : r.length < c.toNat
          · rw [labS_bad h0 (.inr h2), labS_bad h0 (.inr (by rw [lower_length]; exact h2))]; rfl
          · have e1 : (lower r).drop c.toNat = lower (r.drop c.toNat) := (List.map_drop).symm
            have e2 : (lower r).take c.toNat = lower (r.take c.toNat) := (List.map_take).symm
            rw [labS_go (r := lower r) h0 h63 (by rw [lower_length]; omega), labS_go (r := r) h0 h63 (by omega), e1, e2, ih _ (by simp; omega) _ rfl, Option.map_map, Option.map_map]
            rfl
      · have hb := lowB_big (c := c) (by omega)
        have n1 : c ≠ 0 := by rintro rfl; simp at h63
        have n2 : lowB c ≠ 0 := by intro e; rw [e] at hb; simp at hb
        rw [labS_bad n1 (.inl (by omega)), labS_bad n2 (.inl hb)]; rfl
theorem labels_lower (n : Bs) : labelsS (lower n) = ((labelsS n).1.map lower, (labelsS n).2) := by
  have h := labS_lower n
  rcases labels_cases n with ⟨hl, h1⟩ | ⟨L, h1, h2, hl⟩ | ⟨L, h1, h2, hl⟩
  · rw [hl]; rw [h1] at h; exact labels_none h
  · rw [hl]; rw [h1] at h; exact labels_long h (by rw [lower_length]; exact h2)
  · rw [hl]; rw [h1] at h; exact labels_ok h (by rw [lower_length]; exact h2)

set_option maxHeartbeats 4000000 in
set_option maxRecDepth 100000 in
theorem ref_compare (a b : Bs) (w : World) (ha : a.length ≤ 2000000) (hb : b.length ≤ 2000000) :
    Calls Try.prog 32 #[.string (str a), .string (str b)] w fun e w' => e = .returned (.int .i64 (compareS a b)) ∧ Ext w w' := by
  have LA := hid (fun W => ref_lower a W ha)
  have LB := hid (fun W => ref_lower b W hb)
  have CA := hid (fun W => ref_labels (lower a) W (by rw [lower_length]; exact ha))
  have CB := hid (fun W => ref_labels (lower b) W (by rw [lower_length]; exact hb))
  rw [labels_lower] at CA CB
  obtain ⟨V, hV⟩ : ∃ V, V = compareS a b := ⟨_, rfl⟩
  rw [← hV]
  have HV := hid hV
  clear hV
  obtain ⟨la, hla⟩ : ∃ x, x = str (lower a) := ⟨_, rfl⟩
  obtain ⟨lb, hlb⟩ : ∃ x, x = str (lower b) := ⟨_, rfl⟩
  rw [← hla] at LA CA
  rw [← hlb] at LB CB
  clear hla hlb
  by_cases h1 : checkS a = 0
  · by_cases h2 : checkS b = 0
    · obtain ⟨L, hL, hnw, hok, hnl⟩ := labels_good h1
      obtain ⟨Z, hZ, hzw, hokz, hznl⟩ := labels_good h2
      have hv : V = restC L Z 1 := by rw [HV.out]; unfold compareS; rw [if_pos ⟨h1, h2⟩, hL, hZ]; rfl
      have HV := hid hv
      rw [hL] at CA
      rw [hZ] at CB
      have hLn : L.length ≤ 255 := Nat.le_trans wire_len_le (by rw [← hnw]; exact hnl)
      have hZn : Z.length ≤ 255 := Nat.le_trans wire_len_le (by rw [← hzw]; exact hznl)
      obtain ⟨L', hL'⟩ : ∃ x, x = L.map lower := ⟨_, rfl⟩
      obtain ⟨Z', hZ'⟩ : ∃ x, x = Z.map lower := ⟨_, rfl⟩
      have el : L'.length = L.length := by rw [hL', List.length_map]
      have ez : Z'.length = Z.length := by rw [hZ', List.length_map]
      rw [← hL'] at CA
      rw [← hZ'] at CB
      simp only [el, ez] at CA CB
      have HL' := hid hL'
      have HZ' := hid hZ'
      have HEL := hid el
      have HEZ := hid ez
      clear h1 h2 hL hZ hnw hzw hok hokz hv hnl hznl hL' hZ' el ez
      go_enter Try.func32, Try.ntmps32
      go_wp2_with fail
      (with_reducible refine (LA.out _).mono ?_)
      rintro e w01 ⟨rfl, x01⟩
      have X01 := hid x01
      clear x01
      go_wp2_with fail
      (with_reducible refine (CA.out _).mono ?_)
      rintro e w1 ⟨A, c, rfl, oA, x1⟩
      have X1 := hid (ext_trans X01.out x1)
      have OA := hid oA
      clear oA x1
      go_wp2_with fail
      (with_reducible refine (LB.out _).mono ?_)
      rintro e w02 ⟨rfl, x02⟩
      have X02 := hid (ext_trans X1.out x02)
      have X12 := hid x02
      clear x02
      go_wp2_with fail
      (with_reducible refine (CB.out _).mono ?_)
      rintro e w2 ⟨B, d, rfl, oB, x2⟩
      have X2 := hid (ext_trans X02.out x2)
      have rA := RdG.ext (RdG.ext (OwnG.rd OA.out) X12.out) x2
      have rB := OwnG.rd oB
      have cA9 := rA.c_le
      have cB9 := rB.c_le
      have RA := hid rA
      have RB := hid rB
      clear x2 oB OA X1 CA CB rA rB
      go_wp2_with fail
      go_loopw [9] (fun iv wr => ∃ p : Nat, 1 ≤ p ∧ p ≤ L.length + 1 ∧ p ≤ Z.length + 1 ∧ iv = .int .i64 p ∧ Hid (V = restC L Z p) ∧ Hid (Ext w2 wr)) (fun iv _ => L.length + 1 - (intOf iv).toNat)
      case atStart => exact ⟨1, Nat.le_refl _, by omega, by omega, rfl, HV, hid (ext_refl _)⟩
      case round =>
        obtain ⟨p, hp1, hpL, hpZ, rfl, HP, XX⟩ := hrel
        by_cases hlt : p ≤ L.length ∧ p ≤ Z.length
        · obtain ⟨hl1, hl2⟩ := hlt
          obtain ⟨b1, o, hA0, hb, hc⟩ := RdG.text RA.out (k := L.length - p) (by rw [HEL.out]; omega)
          obtain ⟨b2, o2, hB0, hb2, hc2⟩ := RdG.text RB.out (k := Z.length - p) (by rw [HEZ.out]; omega)
          subst hA0
          subst hB0
          obtain ⟨s, hs⟩ : ∃ s, s = L.getD (L.length - p) [] := ⟨_, rfl⟩
          obtain ⟨t, ht⟩ : ∃ t, t = Z.getD (Z.length - p) [] := ⟨_, rfl⟩
          have hs' : L'.getD (L.length - p) [] = lower s := by rw [hs, HL'.out, List.getD_eq_getElem?_getD, List.getD_eq_getElem?_getD, List.getElem?_map, List.getElem?_eq_getElem (by omega)]; rfl
          have ht' : Z'.getD (Z.length - p) [] = lower t := by rw [ht, HZ'.out, List.getD_eq_getElem?_getD, List.getD_eq_getElem?_getD, List.getElem?_map, List.getElem?_eq_getElem (by omega)]; rfl
          have hne := hid (restC_ne hp1 hl1 hl2)
          have heq := hid (restC_eq hp1 hl1 hl2)
          rw [← hs, ← ht] at hne heq
          rw [hs'] at hc
          rw [ht'] at hc2
          obtain ⟨j1, hj1⟩ : ∃ j, j = L.length - p := ⟨_, rfl⟩
          obtain ⟨j2, hj2⟩ : ∃ j, j = Z.length - p := ⟨_, rfl⟩
          rw [← hj1] at hc
          rw [← hj2] at hc2
          have v1 : IntKind.i64.wrap ((L.length : Int) - (p : Int)) = (j1 : Int) := by rw [show (L.length : Int) - (p : Int) = (j1 : Int) from by omega]; exact IntWalk.i64_in _ (by omega)
          have v2 : IntKind.i64.wrap ((Z.length : Int) - (p : Int)) = (j2 : Int) := by rw [show (Z.length : Int) - (p : Int) = (j2 : Int) from by omega]; exact IntWalk.i64_in _ (by omega)
          have v3 : wrap64 ((L.length : Int) - (p : Int)) = (j1 : Int) := by unfold wrap64; omega
          have v4 : wrap64 ((Z.length : Int) - (p : Int)) = (j2 : Int) := by unfold wrap64; omega
          have i3 : (j1 : Int) < (L.length : Int) := by omega
          have i4 : (j2 : Int) < (Z.length : Int) := by omega
          have z1 : decide ((p : Int) ≤ (L.length : Int)) = true := by rw [decide_eq_true_iff]; omega
          have z2 : decide ((p : Int) ≤ (Z.length : Int)) = true := by rw [decide_eq_true_iff]; omega
          have z3 : decide (p ≤ L.length) = true := by rw [decide_eq_true_iff]; omega
          have z4 : decide (p ≤ Z.length) = true := by rw [decide_eq_true_iff]; omega
          obtain ⟨ls, hls⟩ : ∃ x, x = str (lower s) := ⟨_, rfl⟩
          obtain ⟨lt, hlt'⟩ : ∃ x, x = str (lower t) := ⟨_, rfl⟩
          have hcs : wr.cell? ⟨b1, o + j1, none⟩ = some (.string ls) := by rw [hls]; exact (XX.out.cell (p := ⟨b1, o + j1, none⟩) hb).trans hc
          have hct : wr.cell? ⟨b2, o2 + j2, none⟩ = some (.string lt) := by rw [hlt']; exact (XX.out.cell (p := ⟨b2, o2 + j2, none⟩) hb2).trans hc2
          have hbl : Op.bytesLess ls.toList lt.toList = decide (cmpS (lower s) (lower t) = -1) := by rw [hls, hlt', str_toList, str_toList, bytes_less]
          have hbe : (ls.toList == lt.toList) = decide (cmpS (lower s) (lower t) = 0) := by
            rw [hls, hlt', str_toList, str_toList, Bool.eq_iff_iff, beq_iff_eq, decide_eq_true_iff]; exact (cmpS_ord.eq _ _).symm
          have hrg := cmpS_range (lower s) (lower t)
          clear hs ht hs' ht' hc hc2 hls hlt' hj1 hj2
          generalize cmpS (lower s) (lower t) = E at *
          have hpm : p ≤ 255 := by omega
          rcases hrg with rfl | rfl | rfl
          · have y1 : Op.bytesLess ls.toList lt.toList = true := by rw [hbl]; rfl
            have y2 : (ls.toList == lt.toList) = false := by rw [hbe]; rfl
            have hv : V = -1 := HP.out.trans (hne.out (by decide))
            clear hbl hbe
            go_wp2_with fail
            go_quiet (fail)
            go_wp2_with fail
            go_ret
            rw [hv]
            exact ⟨rfl, ext_trans X2.out (ext_trans XX.out (ext_drewN _ _))⟩
          · have y1 : Op.bytesLess ls.toList lt.toList = false := by rw [hbl]; rfl
            have y2 : (ls.toList == lt.toList) = true := by rw [hbe]; rfl
            clear hbl hbe
            go_wp2_with fail
            go_quiet (fail)
            go_wp2_with fail
            exact ⟨⟨p + 1, by omega, by omega, by omega, by go_num, hid (HP.out.trans (heq.out (by first | exact rfl | trivial))), hid (ext_trans XX.out (ext_drewN _ _))⟩, by simp [intOf]; omega⟩
          · have y1 : Op.bytesLess ls.toList lt.toList = false := by rw [hbl]; rfl
            have y2 : (ls.toList == lt.toList) = false := by rw [hbe]; rfl
            have hv : V = 1 := HP.out.trans (hne.out (by decide))
            clear hbl hbe
            go_wp2_with fail
            go_quiet (fail)
            go_wp2_with fail
            go_ret
            rw [hv]
            exact ⟨rfl, ext_trans X2.out (ext_trans XX.out (ext_drewN _ _))⟩
        · have hend : p = L.length + 1 ∨ p = Z.length + 1 := by omega
          have hv := HP.out.trans (restC_end hp1 hpL hpZ hend)
          have HVE := hid hv
          clear hv
          rcases Nat.lt_trichotomy L.length Z.length with ht | ht | ht
          · have hv : V = -1 := by rw [HVE.out, if_pos (by omega)]
            by_cases hcase : p = L.length + 1
            · have c1 : decide ((p : Int) ≤ (L.length : Int)) = false := by rw [decide_eq_false_iff_not]; omega
              have c2 : decide (p ≤ L.length) = false := by rw [decide_eq_false_iff_not]; omega
              have d1 : decide ((L.length : Int) < (Z.length : Int)) = true := by rw [decide_eq_true_iff]; omega
              have d2 : decide (L.length < Z.length) = true := by rw [decide_eq_true_iff]; omega
              clear HP HVE hend hlt ht hcase
              go_wp2_with fail
              go_ret
              rw [hv]
              exact ⟨rfl, ext_trans X2.out XX.out⟩
            · have c1 : decide ((p : Int) ≤ (L.length : Int)) = true := by rw [decide_eq_true_iff]; omega
              have c2 : decide (p ≤ L.length) = true := by rw [decide_eq_true_iff]; omega
              have c3 : decide ((p : Int) ≤ (Z.length : Int)) = false := by rw [decide_eq_false_iff_not]; omega
              have c4 : decide (p ≤ Z.length) = false := by rw [decide_eq_false_iff_not]; omega
              have d1 : decide ((L.length : Int) < (Z.length : Int)) = true := by rw [decide_eq_true_iff]; omega
              have d2 : decide (L.length < Z.length) = true := by rw [decide_eq_true_iff]; omega
              clear HP HVE hend hlt ht hcase
              go_wp2_with fail
              go_ret
              rw [hv]
              exact ⟨rfl, ext_trans X2.out XX.out⟩
          · have hv : V = 0 := by rw [HVE.out, if_neg (by omega), if_neg (by omega)]
            by_cases hcase : p = L.length + 1
            · have c1 : decide ((p : Int) ≤ (L.length : Int)) = false := by rw [decide_eq_false_iff_not]; omega
              have c2 : decide (p ≤ L.length) = false := by rw [decide_eq_false_iff_not]; omega
              have d1 : decide ((L.length : Int) < (Z.length : Int)) = false := by rw [decide_eq_false_iff_not]; omega
              have d2 : decide (L.length < Z.length) = false := by rw [decide_eq_false_iff_not]; omega
              have d3 : decide ((Z.length : Int) < (L.length : Int)) = false := by rw [decide_eq_false_iff_not]; omega
              have d4 : decide (Z.length < L.length) = false := by rw [decide_eq_false_iff_not]; omega
              clear HP HVE hend hlt ht hcase
              go_wp2_with fail
              go_ret
              rw [hv]
              exact ⟨rfl, ext_trans X2.out XX.out⟩
            · have c1 : decide ((p : Int) ≤ (L.length : Int)) = true := by rw [decide_eq_true_iff]; omega
              have c2 : decide (p ≤ L.length) = true := by rw [decide_eq_true_iff]; omega
              have c3 : decide ((p : Int) ≤ (Z.length : Int)) = false := by rw [decide_eq_false_iff_not]; omega
              have c4 : decide (p ≤ Z.length) = false := by rw [decide_eq_false_iff_not]; omega
              have d1 : decide ((L.length : Int) < (Z.length : Int)) = false := by rw [decide_eq_false_iff_not]; omega
              have d2 : decide (L.length < Z.length) = false := by rw [decide_eq_false_iff_not]; omega
              have d3 : decide ((Z.length : Int) < (L.length : Int)) = false := by rw [decide_eq_false_iff_not]; omega
              have d4 : decide (Z.length < L.length) = false := by rw [decide_eq_false_iff_not]; omega
              clear HP HVE hend hlt ht hcase
              go_wp2_with fail
              go_ret
              rw [hv]
              exact ⟨rfl, ext_trans X2.out XX.out⟩
          · have hv : V = 1 := by rw [HVE.out, if_neg (by omega), if_pos (by omega)]
            by_cases hcase : p = L.length + 1
            · have c1 : decide ((p : Int) ≤ (L.length : Int)) = false := by rw [decide_eq_false_iff_not]; omega
              have c2 : decide (p ≤ L.length) = false := by rw [decide_eq_false_iff_not]; omega
              have d1 : decide ((L.length : Int) < (Z.length : Int)) = false := by rw [decide_eq_false_iff_not]; omega
              have d2 : decide (L.length < Z.length) = false := by rw [decide_eq_false_iff_not]; omega
              have d3 : decide ((Z.length : Int) < (L.length : Int)) = true := by rw [decide_eq_true_iff]; omega
              have d4 : decide (Z.length < L.length) = true := by rw [decide_eq_true_iff]; omega
              clear HP HVE hend hlt ht hcase
              go_wp2_with fail
              go_ret
              rw [hv]
              exact ⟨rfl, ext_trans X2.out XX.out⟩
            · have c1 : decide ((p : Int) ≤ (L.length : Int)) = true := by rw [decide_eq_true_iff]; omega
              have c2 : decide (p ≤ L.length) = true := by rw [decide_eq_true_iff]; omega
              have c3 : decide ((p : Int) ≤ (Z.length : Int)) = false := by rw [decide_eq_false_iff_not]; omega
              have c4 : decide (p ≤ Z.length) = false := by rw [decide_eq_false_iff_not]; omega
              have d1 : decide ((L.length : Int) < (Z.length : Int)) = false := by rw [decide_eq_false_iff_not]; omega
              have d2 : decide (L.length < Z.length) = false := by rw [decide_eq_false_iff_not]; omega
              have d3 : decide ((Z.length : Int) < (L.length : Int)) = true := by rw [decide_eq_true_iff]; omega
              have d4 : decide (Z.length < L.length) = true := by rw [decide_eq_true_iff]; omega
              clear HP HVE hend hlt ht hcase
              go_wp2_with fail
              go_ret
              rw [hv]
              exact ⟨rfl, ext_trans X2.out XX.out⟩
    · have hv : V = 0 := by rw [HV.out]; unfold compareS; rw [if_neg (fun h => h2 h.2)]
      obtain ⟨L, hL, hx1, hx2, hnl⟩ := labels_good h1
      clear hx1 hx2
      rw [hL] at CA
      have hz0 := labels_bad h2
      obtain ⟨E, hE⟩ : ∃ E, E = (labelsS b).2 := ⟨_, rfl⟩
      rw [← hE, hz0] at CB
      have y1 : (E != 0) = true := by rw [hE]; unfold checkS at h2; simpa using h2
      obtain ⟨L', hL'⟩ : ∃ x, x = L.map lower := ⟨_, rfl⟩
      rw [← hL'] at CA
      clear h1 h2 hL hnl hz0 hE HV hL'
      simp only [List.map_nil] at CA CB
      go_enter Try.func32, Try.ntmps32
      go_wp2_with fail
      (with_reducible refine (LA.out _).mono ?_)
      rintro e w01 ⟨rfl, x01⟩
      have X01 := hid x01
      clear x01
      go_wp2_with fail
      (with_reducible refine (CA.out _).mono ?_)
      rintro e w1 ⟨A, c, rfl, oA, x1⟩
      have X1 := hid (ext_trans X01.out x1)
      clear oA x1
      go_wp2_with fail
      (with_reducible refine (LB.out _).mono ?_)
      rintro e w02 ⟨rfl, x02⟩
      have X02 := hid (ext_trans X1.out x02)
      clear x02
      go_wp2_with fail
      (with_reducible refine (CB.out _).mono ?_)
      rintro e w2 ⟨B, d, rfl, oB, x2⟩
      have X2 := hid (ext_trans X02.out x2)
      clear x2 oB
      go_wp2_with fail
      go_ret
      rw [hv]
      exact ⟨rfl, X2.out⟩
  · have hv : V = 0 := by rw [HV.out]; unfold compareS; rw [if_neg (fun h => h1 h.1)]
    have ha0 := labels_bad h1
    obtain ⟨E, hE⟩ : ∃ E, E = (labelsS a).2 := ⟨_, rfl⟩
    rw [← hE, ha0] at CA
    have y1 : (E != 0) = true := by rw [hE]; unfold checkS at h1; simpa using h1
    obtain ⟨Z, hZ⟩ : ∃ R, R = (labelsS b).1.map lower := ⟨_, rfl⟩
    obtain ⟨F, hF⟩ : ∃ R, R = (labelsS b).2 := ⟨_, rfl⟩
    rw [← hZ, ← hF] at CB
    clear h1 ha0 hE HV hZ hF
    simp only [List.map_nil] at CA CB
    go_enter Try.func32, Try.ntmps32
    go_wp2_with fail
    (with_reducible refine (LA.out _).mono ?_)
    rintro e w01 ⟨rfl, x01⟩
    have X01 := hid x01
    clear x01
    go_wp2_with fail
    (with_reducible refine (CA.out _).mono ?_)
    rintro e w1 ⟨A, c, rfl, oA, x1⟩
    have X1 := hid (ext_trans X01.out x1)
    clear oA x1
    go_wp2_with fail
    (with_reducible refine (LB.out _).mono ?_)
    rintro e w02 ⟨rfl, x02⟩
    have X02 := hid (ext_trans X1.out x02)
    clear x02
    go_wp2_with fail
    (with_reducible refine (CB.out _).mono ?_)
    rintro e w2 ⟨B, d, rfl, oB, x2⟩
    have X2 := hid (ext_trans X02.out x2)
    clear x2 oB
    go_wp2_with fail
    go_ret
    rw [hv]
    exact ⟨rfl, X2.out⟩
end Go.Proofs.Ytcgcadhnecakaaa

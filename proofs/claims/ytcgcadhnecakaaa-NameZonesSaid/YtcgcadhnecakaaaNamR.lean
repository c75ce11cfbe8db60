/- The law NameOrders: the facts, and the walk whole. -/
import Derived.Test.YtcgcadhnecakaaaNamQ
namespace Go.Proofs.Ytcgcadhnecakaaa
open Go.BK Go.RowKit Go.BK.NM
set_option linter.unusedVariables false

theorem within_of {n z : Bs} {L Z : List Bs} (h1 : labelsS n = (L, 0)) (h2 : labelsS z = (Z, 0)) : withinS n z = withinL L Z := by
  rw [within_yes (by unfold checkS; rw [h1]) (by unfold checkS; rw [h2]), h1, h2]
theorem compare_of {n z : Bs} {L Z : List Bs} (h1 : labelsS n = (L, 0)) (h2 : labelsS z = (Z, 0)) : compareS n z = cmpN L Z := by
  unfold compareS; rw [if_pos ⟨by unfold checkS; rw [h1], by unfold checkS; rw [h2]⟩, h1, h2]
theorem root_labels : labelsS [0] = ([], 0) := labels_ok labS_root (by decide)

theorem ord_facts {a b c : Bs} (ha : a.length ≤ 400) (hb : b.length ≤ 400) (hc : c.length ≤ 400) (ca : checkS a = 0) (cb : checkS b = 0) (cc : checkS c = 0) :
    ∃ tp la lb x z u is vab vac vbc vca vcb na np, OrdFacts (str a) (str b) (str c) tp la lb x z u is vab vac vbc vca vcb na np := by
  obtain ⟨L, hL, eA, okA, lA⟩ := labels_good ca
  obtain ⟨M, hM, eB, okB, lB⟩ := labels_good cb
  obtain ⟨K, hK, eC, okC, lC⟩ := labels_good cc
  have o1 := cmpN_ord L M K
  have o2 := cmpN_ord M L K
  have hkey : cmpN L M = 0 ↔ lower a = lower b := by rw [eA, eB, same_iff okA okB]; exact o1.2.1
  have hpl : (parentS a).1.length ≤ 400 := by
    rcases L with _ | ⟨s, L'⟩
    · rw [parent_none (by rw [hL])]; simp
    · rw [parent_some hL]
      rw [eA, wire_cons] at lA
      simp at lA ⊢
      omega
  have hpar : ((parentS a).2 = true ∧ ∃ s L', L = s :: L' ∧ (parentS a).1 = wire L' ∧ labelsS (wire L') = (L', 0)) ∨ ((parentS a).2 = false ∧ L = [] ∧ (parentS a).1 = []) := by
    rcases L with _ | ⟨s, L'⟩
    · right; rw [parent_none (by rw [hL])]; exact ⟨rfl, rfl, rfl⟩
    · left
      rw [parent_some hL]
      refine ⟨rfl, s, L', rfl, rfl, labels_ok (labS_wire fun t ht => okA t (by simp [ht])) ?_⟩
      rw [eA, wire_cons] at lA
      simp at lA
      omega
  refine ⟨str (parentS a).1, str (lower a), str (lower b), cmpN L M, cmpN M K, cmpN L K, (parentS a).2, withinL L M, withinL L K, withinL M K, withinL K L, withinL K M, L.length, (labelsS (parentS a).1).1.length, ?_⟩
  exact {
    cA := fun W => by have := check_in a W (by omega); rwa [ca] at this
    cB := fun W => by have := check_in b W (by omega); rwa [cb] at this
    cC := fun W => by have := check_in c W (by omega); rwa [cc] at this
    xab := fun W => by have := compare_in a b W (by omega) (by omega); rwa [compare_of hL hM] at this
    xba := fun W => by have := compare_in b a W (by omega) (by omega); rwa [compare_of hM hL, o2.1] at this
    xbc := fun W => by have := compare_in b c W (by omega) (by omega); rwa [compare_of hM hK] at this
    xac := fun W => by have := compare_in a c W (by omega) (by omega); rwa [compare_of hL hK] at this
    same := fun W => by
      have := same_in a b W (by omega) (by omega)
      have e : sameB a b = (cmpN L M == 0) := by
        unfold sameB
        rw [Bool.eq_iff_iff, decide_eq_true_iff, beq_iff_eq, hkey]
        exact ⟨fun h => h.2.2, fun h => ⟨ca, cb, h⟩⟩
      rwa [e] at this
    lowA := fun W => lower_in a W (by omega)
    lowB := fun W => lower_in b W (by omega)
    wac := fun W => by have := within_in a c W (by omega) (by omega); rwa [within_of hL hK] at this
    wbc := fun W => by have := within_in b c W (by omega) (by omega); rwa [within_of hM hK] at this
    wca := fun W => by have := within_in c a W (by omega) (by omega); rwa [within_of hK hL] at this
    wcb := fun W => by have := within_in c b W (by omega) (by omega); rwa [within_of hK hM] at this
    par := fun W => parent_in a W (by omega)
    cntA := fun W => by have := count_in a W (by omega); rwa [hL] at this
    cntP := fun W => count_in _ W (by omega)
    wap := fun W => by
      have := within_in a (parentS a).1 W (by omega) (by omega)
      have e : withinS a (parentS a).1 = (parentS a).2 := by
        rcases hpar with ⟨h1, s, L', rfl, h3, h4⟩ | ⟨h1, rfl, h3⟩
        · rw [h1, h3, within_of hL h4]; exact within_append [s] L'
        · rw [h1, h3]; exact within_no fun h => by have := h.2; unfold checkS at this; rw [labels_none labS_nil] at this; cases this
      rwa [e] at this
    wpa := fun his W => by
      have := within_in (parentS a).1 a W (by omega) (by omega)
      have e : withinS (parentS a).1 a = false := by
        rcases hpar with ⟨h1, s, L', rfl, h3, h4⟩ | ⟨h1, _⟩
        · rw [h3, within_of h4 hL]
          rcases hw : withinL L' (s :: L') with _ | _
          · rfl
          · have h7 := within_le hw; simp only [List.length_cons] at h7; omega
        · rw [h1] at his; cases his
      rwa [e] at this
    waa := fun W => by have := within_in a a W (by omega) (by omega); rwa [within_of hL hL, within_refl] at this
    wa0 := fun W => by have := within_in a [0] W (by omega) (by decide); rwa [within_of hL root_labels, within_root] at this
    wab := fun W => by have := within_in a b W (by omega) (by omega); rwa [within_of hL hM] at this
    szA := by rw [str_size]; exact ha
    szB := by rw [str_size]; exact hb
    szC := by rw [str_size]; exact hc
    low := by rw [str_toList, str_toList, Bool.eq_iff_iff, beq_iff_eq, beq_iff_eq, hkey]
    x3 := cmpN_range L M
    zu := o1.2.2
    eqs := fun h => ⟨within_same_l (o1.2.1.1 h), within_same_r (o1.2.1.1 h)⟩
    cnt := by
      rcases hpar with ⟨h1, s, L', rfl, h3, h4⟩ | ⟨h1, rfl, h3⟩
      · left; rw [h1, h3, h4]; exact ⟨rfl, rfl⟩
      · right; exact ⟨h1, rfl⟩
    ahead := fun h => within_ahead h
    na9 := by have := wire_len_le (L := L); rw [← eA] at this; omega }

set_option maxHeartbeats 4000000 in
set_option maxRecDepth 100000 in
theorem orders_early1 (a b c : ByteArray) (w : World) (ha : 400 < a.size) (ka : a.size ≤ 9223372036854775807) :
    Calls Try.prog 6 #[.string a, .string b, .string c] w fun e w' => e = .returned (.bool true) ∧ Below w.heap.size w w' := by
  have za : decide ((400 : Int) < (a.size : Int)) = true := by rw [decide_eq_true_iff]; omega
  have za' : decide (400 < a.size) = true := by rw [decide_eq_true_iff]; omega
  clear ha
  go_enter Try.func6, Try.ntmps6
  have X := hid (ext_refl w)
  go_wp2_with fail
  (with_reducible refine (awake_in _).mono ?_)
  rintro e w2 ⟨rfl, x⟩
  have X := hid (ext_trans X.out x)
  clear x
  go_wp2_with fail
  go_ret
  exact ⟨rfl, X.out⟩

set_option maxHeartbeats 4000000 in
set_option maxRecDepth 100000 in
theorem orders_early2 (a b c : ByteArray) (w : World) (ha : a.size ≤ 400) (hb : 400 < b.size) (kb : b.size ≤ 9223372036854775807) :
    Calls Try.prog 6 #[.string a, .string b, .string c] w fun e w' => e = .returned (.bool true) ∧ Below w.heap.size w w' := by
  have za : decide ((400 : Int) < (a.size : Int)) = false := by rw [decide_eq_false_iff_not]; omega
  have za' : decide (400 < a.size) = false := by rw [decide_eq_false_iff_not]; omega
  have zb : decide ((400 : Int) < (b.size : Int)) = true := by rw [decide_eq_true_iff]; omega
  have zb' : decide (400 < b.size) = true := by rw [decide_eq_true_iff]; omega
  clear ha hb
  go_enter Try.func6, Try.ntmps6
  have X := hid (ext_refl w)
  go_wp2_with fail
  (with_reducible refine (awake_in _).mono ?_)
  rintro e w2 ⟨rfl, x⟩
  have X := hid (ext_trans X.out x)
  clear x
  go_wp2_with fail
  go_ret
  exact ⟨rfl, X.out⟩

set_option maxHeartbeats 4000000 in
set_option maxRecDepth 100000 in
theorem orders_early3 (a b c : ByteArray) (w : World) (ha : a.size ≤ 400) (hb : b.size ≤ 400) (hc : 400 < c.size) (kc : c.size ≤ 9223372036854775807) :
    Calls Try.prog 6 #[.string a, .string b, .string c] w fun e w' => e = .returned (.bool true) ∧ Below w.heap.size w w' := by
  have za : decide ((400 : Int) < (a.size : Int)) = false := by rw [decide_eq_false_iff_not]; omega
  have za' : decide (400 < a.size) = false := by rw [decide_eq_false_iff_not]; omega
  have zb : decide ((400 : Int) < (b.size : Int)) = false := by rw [decide_eq_false_iff_not]; omega
  have zb' : decide (400 < b.size) = false := by rw [decide_eq_false_iff_not]; omega
  have zc : decide ((400 : Int) < (c.size : Int)) = true := by rw [decide_eq_true_iff]; omega
  have zc' : decide (400 < c.size) = true := by rw [decide_eq_true_iff]; omega
  clear ha hb hc
  go_enter Try.func6, Try.ntmps6
  have X := hid (ext_refl w)
  go_wp2_with fail
  (with_reducible refine (awake_in _).mono ?_)
  rintro e w2 ⟨rfl, x⟩
  have X := hid (ext_trans X.out x)
  clear x
  go_wp2_with fail
  go_ret
  exact ⟨rfl, X.out⟩

set_option maxHeartbeats 4000000 in
set_option maxRecDepth 100000 in
theorem orders_early4 (a b c : ByteArray) {E : Int} (w : World) (ha : a.size ≤ 400) (hb : b.size ≤ 400) (hc : c.size ≤ 400) (Ca : Tell 16 #[.string a] (.int .i64 E)) (hE : E ≠ 0) :
    Calls Try.prog 6 #[.string a, .string b, .string c] w fun e w' => e = .returned (.bool true) ∧ Below w.heap.size w w' := by
  have za : decide ((400 : Int) < (a.size : Int)) = false := by rw [decide_eq_false_iff_not]; omega
  have za' : decide (400 < a.size) = false := by rw [decide_eq_false_iff_not]; omega
  have zb : decide ((400 : Int) < (b.size : Int)) = false := by rw [decide_eq_false_iff_not]; omega
  have zb' : decide (400 < b.size) = false := by rw [decide_eq_false_iff_not]; omega
  have zc : decide ((400 : Int) < (c.size : Int)) = false := by rw [decide_eq_false_iff_not]; omega
  have zc' : decide (400 < c.size) = false := by rw [decide_eq_false_iff_not]; omega
  have zE : (E != 0) = true := by simpa using hE
  clear hE
  have Ha := hid Ca
  clear Ca
  clear ha hb hc
  go_enter Try.func6, Try.ntmps6
  have X := hid (ext_refl w)
  go_wp2_with fail
  (with_reducible refine (awake_in _).mono ?_)
  rintro e w2 ⟨rfl, x⟩
  have X := hid (ext_trans X.out x)
  clear x
  go_wp2_with fail
  (with_reducible refine (Ha.out.on _).mono ?_)
  rintro e w2 ⟨rfl, x⟩
  have X := hid (ext_trans X.out x)
  clear x
  go_wp2_with fail
  go_ret
  exact ⟨rfl, X.out⟩

set_option maxHeartbeats 4000000 in
set_option maxRecDepth 100000 in
theorem orders_early5 (a b c : ByteArray) {E : Int} (w : World) (ha : a.size ≤ 400) (hb : b.size ≤ 400) (hc : c.size ≤ 400) (Ca : Tell 16 #[.string a] (.int .i64 0)) (Cb : Tell 16 #[.string b] (.int .i64 E)) (hE : E ≠ 0) :
    Calls Try.prog 6 #[.string a, .string b, .string c] w fun e w' => e = .returned (.bool true) ∧ Below w.heap.size w w' := by
  have za : decide ((400 : Int) < (a.size : Int)) = false := by rw [decide_eq_false_iff_not]; omega
  have za' : decide (400 < a.size) = false := by rw [decide_eq_false_iff_not]; omega
  have zb : decide ((400 : Int) < (b.size : Int)) = false := by rw [decide_eq_false_iff_not]; omega
  have zb' : decide (400 < b.size) = false := by rw [decide_eq_false_iff_not]; omega
  have zc : decide ((400 : Int) < (c.size : Int)) = false := by rw [decide_eq_false_iff_not]; omega
  have zc' : decide (400 < c.size) = false := by rw [decide_eq_false_iff_not]; omega
  have Ha := hid Ca
  clear Ca
  have zE : (E != 0) = true := by simpa using hE
  clear hE
  have Hb := hid Cb
  clear Cb
  clear ha hb hc
  go_enter Try.func6, Try.ntmps6
  have X := hid (ext_refl w)
  go_wp2_with fail
  (with_reducible refine (awake_in _).mono ?_)
  rintro e w2 ⟨rfl, x⟩
  have X := hid (ext_trans X.out x)
  clear x
  go_wp2_with fail
  (with_reducible refine (Ha.out.on _).mono ?_)
  rintro e w2 ⟨rfl, x⟩
  have X := hid (ext_trans X.out x)
  clear x
  go_wp2_with fail
  (with_reducible refine (Hb.out.on _).mono ?_)
  rintro e w2 ⟨rfl, x⟩
  have X := hid (ext_trans X.out x)
  clear x
  go_wp2_with fail
  go_ret
  exact ⟨rfl, X.out⟩

set_option maxHeartbeats 4000000 in
set_option maxRecDepth 100000 in
theorem orders_early6 (a b c : ByteArray) {E : Int} (w : World) (ha : a.size ≤ 400) (hb : b.size ≤ 400) (hc : c.size ≤ 400) (Ca : Tell 16 #[.string a] (.int .i64 0)) (Cb : Tell 16 #[.string b] (.int .i64 0)) (Cc : Tell 16 #[.string c] (.int .i64 E)) (hE : E ≠ 0) :
    Calls Try.prog 6 #[.string a, .string b, .string c] w fun e w' => e = .returned (.bool true) ∧ Below w.heap.size w w' := by
  have za : decide ((400 : Int) < (a.size : Int)) = false := by rw [decide_eq_false_iff_not]; omega
  have za' : decide (400 < a.size) = false := by rw [decide_eq_false_iff_not]; omega
  have zb : decide ((400 : Int) < (b.size : Int)) = false := by rw [decide_eq_false_iff_not]; omega
  have zb' : decide (400 < b.size) = false := by rw [decide_eq_false_iff_not]; omega
  have zc : decide ((400 : Int) < (c.size : Int)) = false := by rw [decide_eq_false_iff_not]; omega
  have zc' : decide (400 < c.size) = false := by rw [decide_eq_false_iff_not]; omega
  have Ha := hid Ca
  clear Ca
  have Hb := hid Cb
  clear Cb
  have zE : (E != 0) = true := by simpa using hE
  clear hE
  have Hc := hid Cc
  clear Cc
  clear ha hb hc
  go_enter Try.func6, Try.ntmps6
  have X := hid (ext_refl w)
  go_wp2_with fail
  (with_reducible refine (awake_in _).mono ?_)
  rintro e w2 ⟨rfl, x⟩
  have X := hid (ext_trans X.out x)
  clear x
  go_wp2_with fail
  (with_reducible refine (Ha.out.on _).mono ?_)
  rintro e w2 ⟨rfl, x⟩
  have X := hid (ext_trans X.out x)
  clear x
  go_wp2_with fail
  (with_reducible refine (Hb.out.on _).mono ?_)
  rintro e w2 ⟨rfl, x⟩
  have X := hid (ext_trans X.out x)
  clear x
  go_wp2_with fail
  (with_reducible refine (Hc.out.on _).mono ?_)
  rintro e w2 ⟨rfl, x⟩
  have X := hid (ext_trans X.out x)
  clear x
  go_wp2_with fail
  go_ret
  exact ⟨rfl, X.out⟩


theorem orders_walk (a b c : ByteArray) (w : World) (ha : a.size ≤ maxLen) (hb : b.size ≤ maxLen) (hc : c.size ≤ maxLen) :
    Calls Try.prog 6 #[.string a, .string b, .string c] w fun e w' => e = .returned (.bool true) ∧ Below w.heap.size w w' := by
  have a9 : a.size ≤ 9223372036854775807 := by unfold maxLen at ha; omega
  have b9 : b.size ≤ 9223372036854775807 := by unfold maxLen at hb; omega
  have c9 : c.size ≤ 9223372036854775807 := by unfold maxLen at hc; omega
  clear ha hb hc
  have la := len_toList a
  have lb := len_toList b
  have lc := len_toList c
  have ea := str_of a
  have eb := str_of b
  have ec := str_of c
  by_cases h1 : 400 < a.size
  · exact orders_early1 a b c w h1 a9
  by_cases h2 : 400 < b.size
  · exact orders_early2 a b c w (by omega) h2 b9
  by_cases h3 : 400 < c.size
  · exact orders_early3 a b c w (by omega) (by omega) h3 c9
  have CA := fun W => check_in a.data.toList W (by omega)
  have CB := fun W => check_in b.data.toList W (by omega)
  have CC := fun W => check_in c.data.toList W (by omega)
  rw [ea] at CA
  rw [eb] at CB
  rw [ec] at CC
  by_cases h4 : checkS a.data.toList = 0
  · by_cases h5 : checkS b.data.toList = 0
    · by_cases h6 : checkS c.data.toList = 0
      · obtain ⟨tp, la', lb', x, z, u, is, vab, vac, vbc, vca, vcb, na, np, F⟩ := ord_facts (a := a.data.toList) (b := b.data.toList) (c := c.data.toList) (by omega) (by omega) (by omega) h4 h5 h6
        rw [ea, eb, ec] at F
        exact orders_core F w
      · rw [h4] at CA
        rw [h5] at CB
        exact orders_early6 a b c w (by omega) (by omega) (by omega) CA CB CC h6
    · rw [h4] at CA
      exact orders_early5 a b c w (by omega) (by omega) (by omega) CA CB h5
  · exact orders_early4 a b c w (by omega) (by omega) (by omega) CA h4
end Go.Proofs.Ytcgcadhnecakaaa

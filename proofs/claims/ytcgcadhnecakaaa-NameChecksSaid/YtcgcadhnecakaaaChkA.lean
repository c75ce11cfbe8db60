/- The law NameChecks: the walk. -/
import Derived.Test.YtcgcadhnecakaaaNamX
import Derived.Test.YtcgcadhnecakaaaNamG
import Derived.Test.YtcgcadhnecakaaaLabT
import Derived.Test.YtcgcadhnecakaaaRefJ
namespace Go.Proofs.Ytcgcadhnecakaaa
open Go.BK Go.RowKit Go.BK.NM
set_option linter.unusedVariables false

set_option maxHeartbeats 16000000 in
set_option maxRecDepth 100000 in
theorem checks_small {A0 : Option Addr} {c0 : Nat} {l : List Bs} (n : Bs) (w : World) (h : RdT w A0 c0 l) (hn : n.length ≤ 400) (hl : l.length ≤ 300) (hs : longS l = false) :
    Calls Try.prog 3 #[.string (str n), .slice A0 l.length c0] w fun e w' => e = .returned (.bool true) ∧ Below w.heap.size w w' := by
  have CL := hid (long_in h)
  rw [hs] at CL
  have HM := hid (long_mem hs)
  have HR := hid h.1
  have CT := hid (fun W (hW : Ext w W) => lent_texts (h.1.ext hW) (by omega))
  have CA := hid (fun W => LT.labels_in n W (by omega))
  have CB := hid (fun W => ref_labels n W (by omega))
  have K1 := hid (fun W => check_in n W (by omega))
  have K2 := hid (fun W => ref_check n W (by omega))
  have K3 := hid (fun W => count_in n W (by omega))
  have RJ := hid (fun W (hW : Ext w W) => ref_join (h.1.ext hW) (fun s hs' => by have := long_mem hs s hs'; omega))
  have hLn : (labelsS n).1.length ≤ 400 := by
    rcases labels_cases n with ⟨h1, _⟩ | ⟨_, _, _, h1⟩ | ⟨L, h2, _, h1⟩
    · rw [h1]; simp
    · rw [h1]; simp
    · rw [h1]
      have := wire_len_le (L := L)
      rw [← (labS_some h2).1] at this
      simp only; omega
  obtain ⟨R, hR⟩ : ∃ R, R = labelsS n := ⟨_, rfl⟩
  rw [← hR] at CA CB K3 hLn
  have hc : checkS n = R.2 := by rw [hR]; rfl
  rw [hc] at K1 K2
  obtain ⟨L, E⟩ := R
  obtain ⟨J, hJ⟩ : ∃ J, J = joinS l := ⟨_, rfl⟩
  rw [← hJ] at RJ
  have HJ := hid hJ
  obtain ⟨N, F⟩ := J
  obtain ⟨tn, htn⟩ : ∃ t, t = str n := ⟨_, rfl⟩
  have tz : tn.size ≤ 400 := by rw [htn, str_size]; exact hn
  obtain ⟨tN, htN⟩ : ∃ t, t = str N := ⟨_, rfl⟩
  simp only at CA CB K1 K2 K3 RJ hLn
  rw [← htn] at CA CB K1 K2 K3 ⊢
  rw [← htN] at RJ
  have HTN := hid htN
  have z1 : decide ((400 : Int) < (tn.size : Int)) = false := by rw [decide_eq_false_iff_not]; omega
  have z1' : decide (400 < tn.size) = false := by rw [decide_eq_false_iff_not]; omega
  have z2 : decide ((300 : Int) < (l.length : Int)) = false := by rw [decide_eq_false_iff_not]; omega
  have z2' : decide (300 < l.length) = false := by rw [decide_eq_false_iff_not]; omega
  have e1 : (E == E) = true := by simp
  have e2 : (F == F) = true := by simp
  have e3 : (tN.toList == tN.toList) = true := by simp
  have e4 : ((L.length : Int) == (L.length : Int)) = true := by simp
  clear h hR hc hJ htn htN hn hs
  go_enter Try.func3, Try.ntmps3
  go_wp2_with fail
  (with_reducible refine CL.out.mono ?_)
  rintro e w1 ⟨rfl, x⟩
  have X := hid x
  clear x
  go_wp2_with fail
  (with_reducible refine (CT.out _ X.out).mono ?_)
  rintro e w2 ⟨g, rfl, ho, x⟩
  have X := hid (ext_trans X.out x)
  have HO := hid ho
  have RI := hid (lent_rdt ho)
  have hgl := (ho.lt g rfl).2
  have hww := X.out.size
  clear x ho
  go_wp2_with fail
  (with_reducible refine (CA.out _).mono ?_)
  rintro e w3 ⟨A, c, rfl, oA, x⟩
  have X := hid (ext_trans X.out x)
  have HO := hid (HO.out.ext x)
  have RI := hid (RI.out.ext x)
  have OA := hid oA
  have hw23 := x.size
  clear x oA
  go_wp2_with fail
  (with_reducible refine (CB.out _).mono ?_)
  rintro e w4 ⟨B, d, rfl, oB, x⟩
  have X := hid (ext_trans X.out x)
  have HO := hid (HO.out.ext x)
  have RI := hid (RI.out.ext x)
  have OA := hid (OwnG.ext OA.out x)
  have RB := hid (OwnG.rd oB)
  clear x oB
  have CJ := hid (join_in RI.out (by omega))
  rw [← HJ.out] at CJ
  simp only at CJ
  rw [← HTN.out] at CJ
  go_wp2_with fail
  (with_reducible refine CJ.out.mono ?_)
  rintro e w5 ⟨rfl, x⟩
  have X := hid (ext_trans X.out x)
  have HO := hid (HO.out.ext x)
  have OA := hid (OwnG.ext OA.out x)
  have RB := hid (RB.out.ext x)
  clear x CJ
  go_wp2_with fail
  (with_reducible refine (RJ.out _ X.out).mono ?_)
  rintro e w6 ⟨rfl, x⟩
  have X := hid (ext_trans X.out x)
  have HO := hid (HO.out.ext x)
  have OA := hid (OwnG.ext OA.out x)
  have RB := hid (RB.out.ext x)
  clear x
  have CS := hid (same_texts (a := L) (b := L) (OwnG.rd OA.out) RB.out (by omega))
  have hdt : decide (L = L) = true := by simp
  rw [hdt] at CS
  clear hdt
  go_wp2_with fail
  (with_reducible refine CS.out.mono ?_)
  rintro e w7 ⟨rfl, x⟩
  have X := hid (ext_trans X.out x)
  have HO := hid (HO.out.ext x)
  have OA := hid (OwnG.ext OA.out x)
  clear x CS
  go_wp2_with fail
  (with_reducible refine (K1.out _).mono ?_)
  rintro e w8 ⟨rfl, x⟩
  have X := hid (ext_trans X.out x)
  have HO := hid (HO.out.ext x)
  have OA := hid (OwnG.ext OA.out x)
  clear x
  go_wp2_with fail
  (with_reducible refine (K2.out _).mono ?_)
  rintro e w9 ⟨rfl, x⟩
  have X := hid (ext_trans X.out x)
  have HO := hid (HO.out.ext x)
  have OA := hid (OwnG.ext OA.out x)
  clear x
  go_wp2_with fail
  (with_reducible refine (K3.out _).mono ?_)
  rintro e w10 ⟨rfl, x⟩
  have X := hid (ext_trans X.out x)
  have HO := hid (HO.out.ext x)
  have OA := hid (OwnG.ext OA.out x)
  clear x
  have CO := hid (over_texts OA.out (by omega))
  go_wp2_with fail
  (with_reducible refine CO.out.mono ?_)
  rintro e w11 ⟨rfl, gA⟩
  have hne : ∀ b, blk (some ⟨g, 0, none⟩) = some b → some b ≠ blk A := by
    intro b hb e
    have h1 := (OA.out.lt b e.symm).1
    cases hb
    have h2 : w2.heap.size ≤ g := h1
    omega
  have HO := hid (HO.out.grown gA hne)
  have X : Hid (Below w.heap.size w w11) := hid (Below.grown X.out gA X.out.size (fun b hb => by have := (OA.out.lt b hb).1; omega))
  clear gA hne CO
  have CK := hid (kept_texts (L := l) HO.out (HR.out.ext X.out) (by omega))
  go_wp2_with fail
  (with_reducible refine CK.out.mono ?_)
  rintro e w12 ⟨rfl, x⟩
  have X := hid (ext_trans X.out x)
  clear x CK
  go_wp2_with fail
  (with_reducible refine (awake_in _).mono ?_)
  rintro e w13 ⟨rfl, x⟩
  have X := hid (ext_trans X.out x)
  clear x
  go_wp2_with fail
  go_ret
  exact ⟨rfl, X.out⟩

set_option maxHeartbeats 4000000 in
set_option maxRecDepth 100000 in
theorem checks_walk {A0 : Option Addr} {c0 : Nat} {l : List Bs} (t : ByteArray) (w : World) (ht : t.size ≤ maxLen) (h : RdT w A0 c0 l) :
    Calls Try.prog 3 #[.string t, .slice A0 l.length c0] w fun e w' => e = .returned (.bool true) ∧ Below w.heap.size w w' := by
  have t9 : t.size ≤ 9223372036854775807 := by unfold maxLen at ht; omega
  have n9 := h.1.n_le
  by_cases h1 : 400 < t.size
  · have z1 : decide ((400 : Int) < (t.size : Int)) = true := by rw [decide_eq_true_iff]; omega
    have z1' : decide (400 < t.size) = true := by rw [decide_eq_true_iff]; omega
    clear ht h h1
    go_enter Try.func3, Try.ntmps3
    go_wp2_with fail
    go_ret
    exact ⟨rfl, ext_refl _⟩
  · have z1 : decide ((400 : Int) < (t.size : Int)) = false := by rw [decide_eq_false_iff_not]; omega
    have z1' : decide (400 < t.size) = false := by rw [decide_eq_false_iff_not]; omega
    by_cases h2 : 300 < l.length
    · have z2 : decide ((300 : Int) < (l.length : Int)) = true := by rw [decide_eq_true_iff]; omega
      have z2' : decide (300 < l.length) = true := by rw [decide_eq_true_iff]; omega
      clear ht h h1 h2
      go_enter Try.func3, Try.ntmps3
      go_wp2_with fail
      go_ret
      exact ⟨rfl, ext_refl _⟩
    · by_cases h3 : longS l = true
      · have z2 : decide ((300 : Int) < (l.length : Int)) = false := by rw [decide_eq_false_iff_not]; omega
        have z2' : decide (300 < l.length) = false := by rw [decide_eq_false_iff_not]; omega
        have CL := hid (long_in h)
        rw [h3] at CL
        clear ht h h1 h2 h3
        go_enter Try.func3, Try.ntmps3
        go_wp2_with fail
        (with_reducible refine CL.out.mono ?_)
        rintro e w1 ⟨rfl, x⟩
        have X := hid x
        clear x
        go_wp2_with fail
        go_ret
        exact ⟨rfl, X.out⟩
      · have := checks_small t.data.toList w h (by rw [len_toList]; omega) (by omega) (by simpa using h3)
        rwa [str_of] at this
end Go.Proofs.Ytcgcadhnecakaaa

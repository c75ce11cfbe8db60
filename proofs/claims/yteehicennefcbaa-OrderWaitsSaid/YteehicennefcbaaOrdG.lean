/- OrderWaits: nothing goes ahead of the first. -/
import Derived.Test.YteehicennefcbaaOrdF
import Derived.Test.YteehicennefcbaaKPick
namespace Go.Proofs.Yteehicennefcbaa
open Go.BK Go.RowKit
set_option linter.unusedVariables false

theorem open_rep (m k : Nat) (h : k < m) : openS m 1 (List.replicate k none) = (1 + (k : Int), 0) ∧ openL m (List.replicate k (none : Option Bs)) = List.replicate (k + 1) none := by
  unfold openS openL
  rw [List.length_replicate, if_neg (by omega), if_neg (by omega)]
  exact ⟨rfl, by rw [List.replicate_succ']⟩

theorem wait_done (j q : Nat) (l : Bs) (n : Int) (hn : n = ((j + 2 : Nat) : Int)) : doneErr 1 (List.replicate (j + 2) none ++ List.replicate q (some l)) n = 0 ∧ doneOut 1 (List.replicate (j + 2) none ++ List.replicate q (some l)) n l = [] ∧
    doneL 1 (List.replicate (j + 2) none ++ List.replicate q (some l)) n l = List.replicate (j + 1) none ++ List.replicate (q + 1) (some l) := by
  have h0 : doneErr 1 (List.replicate (j + 2) none ++ List.replicate q (some l)) n = 0 := by
    unfold doneErr
    rw [if_neg (by simp; omega), show (n - ((1 : Nat) : Int)).toNat = j + 1 from by omega, List.getElem?_append_left (by simp)]
    simp
  have hs : (List.replicate (j + 2) (none : Option Bs) ++ List.replicate q (some l)).set (n - ((1 : Nat) : Int)).toNat (some l) = none :: (List.replicate j none ++ some l :: List.replicate q (some l)) := by
    rw [show (n - ((1 : Nat) : Int)).toNat = j + 1 from by omega, List.set_append_left _ _ (by simp), show j + 2 = (j + 1) + 1 from rfl, List.replicate_succ' (n := j + 1), List.set_append_right _ _ (by simp), List.length_replicate, Nat.sub_self, List.replicate_succ]
    simp
  refine ⟨h0, ?_, ?_⟩
  · unfold doneOut
    rw [if_pos h0, hs]
    rfl
  · unfold doneL
    rw [if_pos h0, hs]
    rfl
theorem all_some (X : List Bs) : (X.map some).takeWhile Option.isSome = X.map some ∧ (X.map some).dropWhile Option.isSome = [] := by
  induction X with
  | nil => exact ⟨rfl, rfl⟩
  | cons a X ih => exact ⟨by simpa using ih.1, by simpa using ih.2⟩
theorem last_done (q : Nat) (l : Bs) : doneErr 1 (List.replicate 1 none ++ List.replicate q (some l)) 1 = 0 ∧ doneOut 1 (List.replicate 1 none ++ List.replicate q (some l)) 1 [] = [] :: List.replicate q l ∧
    doneL 1 (List.replicate 1 none ++ List.replicate q (some l)) 1 [] = [] := by
  have h0 : doneErr 1 (List.replicate 1 none ++ List.replicate q (some l)) 1 = 0 := by
    unfold doneErr
    rw [if_neg (by simp; omega)]
    rfl
  have hs : (List.replicate 1 (none : Option Bs) ++ List.replicate q (some l)).set ((1 : Int) - ((1 : Nat) : Int)).toNat (some []) = ([] :: List.replicate q l).map some := by
    simp
  have h := all_some ([] :: List.replicate q l)
  refine ⟨h0, ?_, ?_⟩
  · unfold doneOut
    rw [if_pos h0, hs, h.1]
    simp
  · unfold doneL
    rw [if_pos h0, hs, h.2]

theorem getD_rep (p k : Nat) (l : Bs) (h : k < 1 + p) : ([] :: List.replicate (1 + p) l : List Bs).getD (k + 1) [] = l := by
  simp [List.getD, h]

set_option maxRecDepth 100000 in
set_option maxHeartbeats 4000000 in
theorem waits_walk (many : Int) {A : Option Addr} {c : Nat} {l : Bs} (w : World) (hm : -9223372036854775808 ≤ many ∧ many ≤ 9223372036854775807) (hA : Rd w A c l) :
    Calls Try.prog 3 #[.int .i64 many, .slice A l.length c] w fun e w' => e = .returned (.bool true) ∧ Ext w w' := by
  have hp0 := pick_range many 63 (by decide)
  obtain ⟨p, hp⟩ : ∃ p : Nat, pick many 63 = p := ⟨(pick many 63).toNat, by omega⟩
  have hp63 : p < 63 := by omega
  have PK := hid (fun W => pick_any many 63 W hm (by decide))
  rw [hp] at PK
  have hl9 := hA.n_le
  clear hp hp0
  go_enter Try.func3, Try.ntmps3
  go_wp2_with fail
  refine (awake_yes _).mono ?_; rintro e w1 ⟨rfl, B1⟩
  go_wp2_with fail
  refine (PK.out _).mono ?_; rintro e w2 ⟨rfl, rfl⟩
  go_wp2_with fail
  refine (wino_new (b0 := w.heap.size) (2 + p) _ (by omega) (by omega) B1.size).mono ?_; rintro e w3 ⟨g, rfl, W3, x3⟩
  have B3 := below_ext B1 B1.size x3
  clear B1 x3
  by_cases hbig : 1000 < l.length
  · go_wp2_with fail
    go_ret
    exact ⟨rfl, B3⟩
  have hl' : l.length ≤ 140737488355328 := by omega
  go_wp2_with fail
  go_loopw [8] (fun i wr => ∃ k : Nat, k ≤ 2 + p ∧ i = .int .i64 k ∧ WinO w.heap.size wr g (2 + p) 1 (List.replicate k none) ∧ Ext w wr) (fun i _ => 2 + p - (intOf i).toNat)
  case atStart => exact ⟨0, Nat.zero_le _, rfl, W3, B3⟩
  case round =>
    obtain ⟨k, hk, rfl, WK, BK⟩ := hrel
    by_cases hlt : k < 2 + p
    · have hq := open_rep (2 + p) k hlt
      have hwl : ((1 : Nat) : Int) + (List.replicate k (none : Option Bs)).length ≤ 1000000 := by simp; omega
      have HC := hid (wino_open WK hwl BK.size hq.1 hq.2)
      have HB := hid BK
      clear hq WK hwl BK W3 B3
      go_wp2_with fail
      refine HC.out.mono ?_; rintro e w4 ⟨rfl, W4, x4⟩
      have B4 := HB.out.trans x4
      clear x4
      go_wp2_with fail
      go_roundw
      case rel => exact ⟨k + 1, by omega, by go_num, W4, B4⟩
      case measure => simp [intOf]; omega
    · have hke : k = 2 + p := by omega
      subst hke
      clear W3 B3 hlt hk
      go_wp2_with fail
      go_loopw [9] (fun i wr => ∃ j : Nat, j ≤ 1 + p ∧ i = .int .i64 ((j : Int) + 1) ∧ WinO w.heap.size wr g (2 + p) 1 (List.replicate (j + 1) none ++ List.replicate (1 + p - j) (some l)) ∧ Ext w wr) (fun i _ => (intOf i).toNat)
      case atStart => exact ⟨1 + p, Nat.le_refl _, by congr 1; omega, by rw [show 1 + p + 1 = 2 + p from by omega, Nat.sub_self]; simpa using WK, BK⟩
      case round =>
        obtain ⟨j, hj, rfl, WJ, BJ⟩ := hrel
        rcases j with _ | j
        · have hq := last_done (1 + p) l
          have hwl : ((1 : Nat) : Int) + (List.replicate 1 (none : Option Bs) ++ List.replicate (1 + p) (some l)).length ≤ 1000000 := by simp; omega
          have HC := hid (wino_done (m := 0) (f' := 1 + (1 + (1 + p))) 1 WJ hwl BJ.size (Rd.nil _) (by simp) hq.2.1 hq.1 (by simp; omega) hq.2.2 rfl (show _ = 2 + p by simp; omega))
          have HB := hid BJ
          have HA := hid hA
          clear hq WJ hwl BJ WK BK hA hj
          go_wp2_with fail
          refine HC.out.mono ?_; rintro e w4 ⟨A4, c4, rfl, R4, W4, x4⟩
          have B4 := HB.out.trans x4
          have hA4 := HA.out.ext B4
          clear x4 HC
          obtain ⟨b5, o5, A5, c5, rfl, hb5, g5, rd5⟩ := R4.at_ (k := 0) (by omega)
          simp only [List.getD_cons_zero, List.length_nil, Nat.add_zero] at g5
          clear rd5
          go_wp2_with fail
          have R4' := hid R4
          have HB4 := hid B4
          have HW4 := hid W4
          have HA4 := hid hA4
          clear R4 B4 W4 g5 hb5 hA4
          go_loopw [14] (fun i wr => ∃ k : Nat, k + 1 ≤ 2 + p ∧ i = .int .i64 ((k : Int) + 1) ∧ wr = w4) (fun i _ => 2 + p - (intOf i).toNat)
          case atStart => exact ⟨0, by omega, rfl, rfl⟩
          case round =>
            obtain ⟨k, hk, rfl, rfl⟩ := hrel
            by_cases hlt : k + 1 < 2 + p
            · obtain ⟨b6, o6, A6, c6, e6, hb6, g6, rd6⟩ := R4'.out.at_ hlt
              injection e6 with e6
              injection e6 with e6a e6b
              subst e6a; subst e6b
              have hgd := getD_rep p k l (by omega)
              rw [hgd] at g6 rd6
              have HS := hid (same_yes rd6 HA4.out rfl)
              have g6' : wr.cell? ⟨b5, o5 + (k + 1), none⟩ = some (.slice A6 l.length c6) := g6
              clear hgd rd6 g6
              go_wp2_with fail
              refine HS.out.mono ?_; rintro e w5 ⟨rfl, hw⟩
              subst hw
              clear HS
              go_wp2_with fail
              go_roundw
              case rel => exact ⟨k + 1, by omega, by go_num, trivial⟩
              case measure => simp [intOf]; omega
            · have hke : k = 1 + p := by omega
              subst hke
              clear hlt hk
              go_wp2_with fail
              refine (wino_len (r := 0) HW4.out (by simp; omega) (by simp)).mono ?_; rintro e w5 ⟨rfl, d, rfl⟩
              have B5 := below_ext HB4.out HB4.out.size (ext_drewN _ d)
              go_wp2_with fail
              go_ret
              exact ⟨rfl, B5⟩
        · have hq := wait_done j (1 + p - (j + 1)) l ((j : Int) + 1 + 1) (by omega)
          have hwl : ((1 : Nat) : Int) + (List.replicate (j + 2) (none : Option Bs) ++ List.replicate (1 + p - (j + 1)) (some l)).length ≤ 1000000 := by simp; omega
          have HC := hid (wino_done (f' := 1) ((j : Int) + 1 + 1) WJ hwl BJ.size (hA.ext BJ) hl' hq.2.1 hq.1 (by simp) hq.2.2 rfl rfl)
          rw [show 1 + p - (j + 1) + 1 = 1 + p - j from by omega] at HC
          have hwl2 : ((1 : Nat) : Int) + (List.replicate (j + 1) (none : Option Bs) ++ List.replicate (1 + p - j) (some l)).length ≤ 1000000 := by simp; omega
          have HW := hid hwl2
          have HB := hid BJ
          have hgt : 1 < (j : Int) + 1 + 1 := by omega
          clear hq WJ hwl BJ WK BK hwl2
          go_wp2_with fail
          refine HC.out.mono ?_; rintro e w4 ⟨A4, c4, rfl, R4, W4, x4⟩
          have B4 := HB.out.trans x4
          clear x4 R4
          clear HC
          simp only [List.length_nil]
          go_wp2_with fail
          refine (wino_first (r := 1) W4 HW.out (by simp)).mono ?_; rintro e w5 ⟨rfl, d, rfl⟩
          have W5 := W4.ext (ext_drewN _ d)
          have B5 := below_ext B4 B4.size (ext_drewN _ d)
          clear HW W4 B4
          go_wp2_with fail
          go_roundw
          case rel =>
            repeat apply Exists.intro
            exact ⟨⟨j, by omega, by go_num, W5, B5⟩, rfl⟩
          case measure => simp [intOf]; omega
end Go.Proofs.Yteehicennefcbaa

/- name.Parse's parts: fails, digit, escaped. -/
import Derived.Test.YtcgcadhnecakaaaNamT
import Derived.Test.YtcgcadhnecakaaaKStr
import Derived.Test.YtcgcadhnecakaaaKBase
import Derived.Test.YtcgcadhnecakaaaLabC
import Derived.Deep.QuietTactic
import Derived.BigQuiet
import Derived.IntWalk
import Derived.WalkLawsBesides
namespace Go.Proofs.Ytcgcadhnecakaaa
open Go.BK Go.RowKit Go.BK.NM
set_option linter.unusedVariables false

set_option maxHeartbeats 2000000 in
theorem digit_in (c : UInt8) (w : World) : Calls Try.prog 52 #[.int .u8 c.toNat] w fun e w' => e = .returned (.bool (dig c)) ∧ w' = w := by
  obtain ⟨V, hV⟩ : ∃ V, V = dig c := ⟨_, rfl⟩
  rw [← hV]
  have HV := hid hV
  clear hV
  have h256 := c.toNat_lt
  by_cases h1 : 48 ≤ c.toNat
  · have z1 : decide ((48 : Int) ≤ (c.toNat : Int)) = true := by rw [decide_eq_true_iff]; omega
    have z1' : decide (48 ≤ c.toNat) = true := by rw [decide_eq_true_iff]; omega
    by_cases h2 : c.toNat ≤ 57
    · have z2 : decide ((c.toNat : Int) ≤ 57) = true := by rw [decide_eq_true_iff]; omega
      have z2' : decide (c.toNat ≤ 57) = true := by rw [decide_eq_true_iff]; omega
      obtain rfl : V = true := by rw [HV.out]; unfold dig; rw [decide_eq_true_iff]; omega
      clear HV h1 h2
      go_enter Try.func52, Try.ntmps52
      go_wp2_with fail
      go_ret
      exact ⟨rfl, rfl⟩
    · have z2 : decide ((c.toNat : Int) ≤ 57) = false := by rw [decide_eq_false_iff_not]; omega
      have z2' : decide (c.toNat ≤ 57) = false := by rw [decide_eq_false_iff_not]; omega
      obtain rfl : V = false := by rw [HV.out]; unfold dig; rw [decide_eq_false_iff_not]; omega
      clear HV h1 h2
      go_enter Try.func52, Try.ntmps52
      go_wp2_with fail
      go_ret
      exact ⟨rfl, rfl⟩
  · have z1 : decide ((48 : Int) ≤ (c.toNat : Int)) = false := by rw [decide_eq_false_iff_not]; omega
    have z1' : decide (48 ≤ c.toNat) = false := by rw [decide_eq_false_iff_not]; omega
    obtain rfl : V = false := by rw [HV.out]; unfold dig; rw [decide_eq_false_iff_not]; omega
    clear HV h1
    go_enter Try.func52, Try.ntmps52
    go_wp2_with fail
    go_ret
    exact ⟨rfl, rfl⟩

/-- What is thrown. -/
def wrongV (f : Flt) : Value := .iface 65 (.agg #[.int .i64 f.1, .int .i64 f.2])
def thrown (f : Flt) : Ending := .panicked [{ v := wrongV f, recovered := false }]

set_option maxHeartbeats 2000000 in
theorem fails_in (p : Value) (e : Int) (q : Nat) (w : World) : Calls Try.prog 44 #[p, .int .i64 e, .int .i64 q] w fun x w' => x = thrown (e, q) ∧ w' = w := by
  go_enter Try.func44, Try.ntmps44
  go_wp2_with fail
  exact ⟨rfl, rfl, rfl⟩

theorem par_move {w : World} {g : Nat} {s a v : Value} (h : Blk w g 71 #[s, a, v]) (u : Value) {u' : Value} (e : u = u') : Blk (w.setCell ⟨g, 1, none⟩ u) g 71 #[s, u', v] := by
  subst e; simpa using h.set_ 1 u
def EscPost (s : Bs) (k : Nat) (v : Value) (g : Nat) (w : World) (x : Ending) (w' : World) : Except Flt (UInt8 × Nat) → Prop
  | .error f => x = thrown f ∧ w.grownBy w' (some g)
  | .ok (b, m) => x = .returned (.int .u8 b.toNat) ∧ Blk w' g 71 #[.string (str s), .int .i64 ((k + m : Nat) : Int), v] ∧ w.grownBy w' (some g)

set_option maxHeartbeats 4000000 in
set_option maxRecDepth 100000 in
theorem escaped_in (s : Bs) (k : Nat) (v : Value) (g : Nat) (w : World) (hB : Blk w g 71 #[.string (str s), .int .i64 k, v]) (hk : k < s.length) (hs : s.length ≤ 2000000) :
    Calls Try.prog 49 #[.pointer (some ⟨g, 0, none⟩)] w fun x w' => EscPost s k v g w x w' (escS (s.drop (k + 1)) k) := by
  have HB := hid hB
  obtain ⟨rc, rf⟩ := hB.rules
  have c0 := rc 0
  have c1 := rc 1
  simp only [List.getElem?_toArray, List.getElem?_cons_zero, List.getElem?_cons_succ] at c0 c1
  obtain ⟨r, hr⟩ : ∃ r, r = s.drop (k + 1) := ⟨_, rfl⟩
  rw [← hr]
  have hrl : r.length = s.length - (k + 1) := by rw [hr, List.length_drop]
  obtain ⟨t, ht⟩ : ∃ t, t = str s := ⟨_, rfl⟩
  obtain ⟨rt, hrt⟩ : ∃ t, t = str r := ⟨_, rfl⟩
  have htz : t.size = s.length := by rw [ht, str_size]
  have he : t.extract (k + 1) t.size = rt := by
    rw [htz, ht, hrt, hr]; apply ByteArray.ext; simp [str]; exact List.take_of_length_le (by simp)
  have hrz : rt.size = r.length := by rw [hrt, str_size]
  have kb : k + 1 ≤ t.size := by omega
  have kb9 : k ≤ 2000000 := by omega
  have tz9 : t.size ≤ 2000000 := by omega
  rw [← ht] at c0
  have HT := hid ht
  have FA := hid (fun (p : Value) (e : Int) (q : Nat) (W : World) => fails_in p e q W)
  have FB := hid (fun (p : Value) (e : Int) (W : World) => show Calls Try.prog 44 #[p, .int .i64 e, .int .i64 ((k : Int) + 1)] W fun x w' => x = thrown (e, k + 1) ∧ w' = W from by rw [show (k : Int) + 1 = ((k + 1 : Nat) : Int) from by omega]; exact fails_in p e (k + 1) W)
  have w2 : ((k : Int) + 1).toNat = k + 1 := by omega
  clear hB rc ht htz hr
  rcases r with _ | ⟨c, r1⟩
  · have z0 : (rt.toList == []) = true := by rw [hrt, str_toList]; rfl
    have z0' : rt.toList.isEmpty = true := by rw [hrt, str_toList]; rfl
    clear hrt hrz hrl
    show Calls _ _ _ _ fun x w' => x = thrown (4, k) ∧ w.grownBy w' (some g)
    go_enter Try.func49, Try.ntmps49
    go_wp2_with fail
    (with_reducible refine (FA.out _ 4 k _).mono ?_)
    rintro e w1 ⟨rfl, hw⟩
    subst hw
    unfold thrown
    go_wp2_with fail
    exact ⟨rfl, rfl, grown_refl _ _⟩
  · have hz1 : 0 < rt.size := by rw [hrz]; simp
    have b0 : rt[0]'hz1 = c := by subst hrt; simp [str]; rfl
    have z0 : (rt.toList == []) = false := by rw [hrt, str_toList]; rfl
    have z0' : rt.toList.isEmpty = false := by rw [hrt, str_toList]; rfl
    have DC := hid (fun W => digit_in c W)
    have rz9 : rt.size ≤ 2000000 := by omega
    have c256 := c.toNat_lt
    by_cases hd : dig c = true
    · rw [hd] at DC
      rcases r1 with _ | ⟨d, _ | ⟨f, r2⟩⟩
      · have he0 : escS [c] k = .error (4, k) := by unfold escS; simp [hd]
        rw [he0]
        have z3 : decide ((rt.size : Int) < 3) = true := by rw [decide_eq_true_iff, hrz]; simp
        have z3' : decide (rt.size < 3) = true := by rw [decide_eq_true_iff, hrz]; simp
        clear hrt hrz hrl he0 hd
        show Calls _ _ _ _ fun x w' => x = thrown (4, k) ∧ w.grownBy w' (some g)
        go_enter Try.func49, Try.ntmps49
        go_wp2_with fail
        (with_reducible refine (DC.out _).mono ?_)
        rintro e w1 ⟨rfl, hw⟩
        subst hw
        go_wp2_with fail
        (with_reducible refine (FA.out _ 4 k _).mono ?_)
        rintro e w1 ⟨rfl, hw⟩
        subst hw
        unfold thrown
        go_wp2_with fail
        exact ⟨rfl, rfl, grown_refl _ _⟩
      · have he0 : escS [c, d] k = .error (4, k) := by unfold escS; simp [hd]
        rw [he0]
        have z3 : decide ((rt.size : Int) < 3) = true := by rw [decide_eq_true_iff, hrz]; simp
        have z3' : decide (rt.size < 3) = true := by rw [decide_eq_true_iff, hrz]; simp
        clear hrt hrz hrl he0 hd
        show Calls _ _ _ _ fun x w' => x = thrown (4, k) ∧ w.grownBy w' (some g)
        go_enter Try.func49, Try.ntmps49
        go_wp2_with fail
        (with_reducible refine (DC.out _).mono ?_)
        rintro e w1 ⟨rfl, hw⟩
        subst hw
        go_wp2_with fail
        (with_reducible refine (FA.out _ 4 k _).mono ?_)
        rintro e w1 ⟨rfl, hw⟩
        subst hw
        unfold thrown
        go_wp2_with fail
        exact ⟨rfl, rfl, grown_refl _ _⟩
      · have hz2 : 1 < rt.size := by rw [hrz]; simp
        have hz3 : 2 < rt.size := by rw [hrz]; simp
        have b1 : rt[1]'hz2 = d := by subst hrt; simp [str]; rfl
        have b2 : rt[2]'hz3 = f := by subst hrt; simp [str]; rfl
        have z3 : decide ((rt.size : Int) < 3) = false := by rw [decide_eq_false_iff_not, hrz]; simp only [List.length_cons]; omega
        have z3' : decide (rt.size < 3) = false := by rw [decide_eq_false_iff_not, hrz]; simp only [List.length_cons]; omega
        have DD := hid (fun W => digit_in d W)
        have DF := hid (fun W => digit_in f W)
        clear hrt hrz hrl
        by_cases hdd : dig d = true
        · rw [hdd] at DD
          by_cases hdf : dig f = true
          · rw [hdf] at DF
            have d256 := d.toNat_lt
            have f256 := f.toNat_lt
            have hcr : 48 ≤ c.toNat ∧ c.toNat ≤ 57 := by unfold dig at hd; rwa [decide_eq_true_iff] at hd
            have hdr : 48 ≤ d.toNat ∧ d.toNat ≤ 57 := by unfold dig at hdd; rwa [decide_eq_true_iff] at hdd
            have hfr : 48 ≤ f.toNat ∧ f.toNat ≤ 57 := by unfold dig at hdf; rwa [decide_eq_true_iff] at hdf
            obtain ⟨x, hx⟩ : ∃ x, x = c.toNat - 48 := ⟨_, rfl⟩
            obtain ⟨y, hy⟩ : ∃ x, x = d.toNat - 48 := ⟨_, rfl⟩
            obtain ⟨z, hz⟩ : ∃ x, x = f.toNat - 48 := ⟨_, rfl⟩
            obtain ⟨N, hN⟩ : ∃ N, N = num3 c d f := ⟨_, rfl⟩
            have hN2 : N = 100 * x + 10 * y + z := by rw [hN, hx, hy, hz]; rfl
            have u1 : IntKind.u8.wrap ((c.toNat : Int) - 48) = (x : Int) := by show ((c.toNat : Int) - 48) % 256 = _; omega
            have u2 : IntKind.u8.wrap ((d.toNat : Int) - 48) = (y : Int) := by show ((d.toNat : Int) - 48) % 256 = _; omega
            have u3 : IntKind.u8.wrap ((f.toNat : Int) - 48) = (z : Int) := by show ((f.toNat : Int) - 48) % 256 = _; omega
            have x10 : x < 10 := by omega
            have y10 : y < 10 := by omega
            have z10 : z < 10 := by omega
            have q1 : IntKind.i64.wrap (x : Int) = x := IntWalk.i64_in _ (by omega)
            have q2 : IntKind.i64.wrap (y : Int) = y := IntWalk.i64_in _ (by omega)
            have q3 : IntKind.i64.wrap (z : Int) = z := IntWalk.i64_in _ (by omega)
            have q4 : IntKind.i64.wrap (100 * (x : Int)) = 100 * (x : Int) := IntWalk.i64_in _ (by omega)
            have q5 : IntKind.i64.wrap (10 * (y : Int)) = 10 * (y : Int) := IntWalk.i64_in _ (by omega)
            have q6 : IntKind.i64.wrap (100 * (x : Int) + 10 * (y : Int)) = 100 * (x : Int) + 10 * (y : Int) := IntWalk.i64_in _ (by omega)
            have q7 : IntKind.i64.wrap (100 * (x : Int) + 10 * (y : Int) + (z : Int)) = (N : Int) := by rw [show 100 * (x : Int) + 10 * (y : Int) + (z : Int) = (N : Int) from by omega]; exact IntWalk.i64_in _ (by omega)
            have e1 : escS (c :: d :: f :: r2) k = if 255 < N then .error (5, k) else .ok (UInt8.ofNat N, 4) := by
              unfold escS; simp only [hd, hdd, hdf, if_true, Bool.and_self]; rw [← hN]
            rw [e1]
            clear e1 hcr hdr hfr hx hy hz hN hd hdd hdf
            by_cases hbig : 255 < N
            · rw [if_pos hbig]
              have y1 : decide ((255 : Int) < (N : Int)) = true := by rw [decide_eq_true_iff]; omega
              have y1' : decide (255 < N) = true := by rw [decide_eq_true_iff]; omega
              clear hN2
              show Calls _ _ _ _ fun x w' => x = thrown (5, k) ∧ w.grownBy w' (some g)
              go_enter Try.func49, Try.ntmps49
              go_wp2_with fail
              (with_reducible refine (DC.out _).mono ?_)
              rintro e w1 ⟨rfl, hw⟩
              subst hw
              go_wp2_with fail
              (with_reducible refine (DD.out _).mono ?_)
              rintro e w1 ⟨rfl, hw⟩
              subst hw
              go_wp2_with fail
              (with_reducible refine (DF.out _).mono ?_)
              rintro e w1 ⟨rfl, hw⟩
              subst hw
              go_wp2_with fail
              go_quiet (fail)
              go_wp2_with fail
              (with_reducible refine (FA.out _ 5 k _).mono ?_)
              rintro e w1 ⟨rfl, hw⟩
              subst hw
              unfold thrown
              go_wp2_with fail
              exact ⟨rfl, rfl, grown_of_ext (ext_drewN _ _) _⟩
            · rw [if_neg hbig]
              have y1 : decide ((255 : Int) < (N : Int)) = false := by rw [decide_eq_false_iff_not]; omega
              have y1' : decide (255 < N) = false := by rw [decide_eq_false_iff_not]; omega
              have hu8 : (UInt8.ofNat N).toNat = N := by rw [UInt8.toNat_ofNat']; omega
              have HU := hid hu8
              have N9 : N ≤ 255 := by omega
              clear hN2 hu8 hbig
              show Calls _ _ _ _ fun x w' => x = .returned (.int .u8 (UInt8.ofNat N).toNat) ∧ Blk w' g 71 #[.string (str s), .int .i64 ((k + 4 : Nat) : Int), v] ∧ w.grownBy w' (some g)
              rw [HU.out]
              go_enter Try.func49, Try.ntmps49
              go_wp2_with fail
              (with_reducible refine (DC.out _).mono ?_)
              rintro e w1 ⟨rfl, hw⟩
              subst hw
              go_wp2_with fail
              (with_reducible refine (DD.out _).mono ?_)
              rintro e w1 ⟨rfl, hw⟩
              subst hw
              go_wp2_with fail
              (with_reducible refine (DF.out _).mono ?_)
              rintro e w1 ⟨rfl, hw⟩
              subst hw
              go_wp2_with fail
              go_quiet (fail)
              go_wp2_with fail
              go_ret
              exact ⟨rfl, par_move (HB.out.ext (ext_drewN _ _)) _ (by simp), grown_of_set (grown_of_ext (ext_drewN _ _) _) (.inl rfl) 1 _⟩
          · have hdf' : dig f = false := by simpa using hdf
            rw [hdf'] at DF
            have he0 : escS (c :: d :: f :: r2) k = .error (4, k) := by unfold escS; simp [hd, hdd, hdf']
            rw [he0]
            clear he0 hd hdd hdf hdf'
            show Calls _ _ _ _ fun x w' => x = thrown (4, k) ∧ w.grownBy w' (some g)
            go_enter Try.func49, Try.ntmps49
            go_wp2_with fail
            (with_reducible refine (DC.out _).mono ?_)
            rintro e w1 ⟨rfl, hw⟩
            subst hw
            go_wp2_with fail
            (with_reducible refine (DD.out _).mono ?_)
            rintro e w1 ⟨rfl, hw⟩
            subst hw
            go_wp2_with fail
            (with_reducible refine (DF.out _).mono ?_)
            rintro e w1 ⟨rfl, hw⟩
            subst hw
            go_wp2_with fail
            (with_reducible refine (FA.out _ 4 k _).mono ?_)
            rintro e w1 ⟨rfl, hw⟩
            subst hw
            unfold thrown
            go_wp2_with fail
            exact ⟨rfl, rfl, grown_refl _ _⟩
        · have hdd' : dig d = false := by simpa using hdd
          rw [hdd'] at DD
          have he0 : escS (c :: d :: f :: r2) k = .error (4, k) := by unfold escS; simp [hd, hdd']
          rw [he0]
          clear he0 hd hdd hdd'
          show Calls _ _ _ _ fun x w' => x = thrown (4, k) ∧ w.grownBy w' (some g)
          go_enter Try.func49, Try.ntmps49
          go_wp2_with fail
          (with_reducible refine (DC.out _).mono ?_)
          rintro e w1 ⟨rfl, hw⟩
          subst hw
          go_wp2_with fail
          (with_reducible refine (DD.out _).mono ?_)
          rintro e w1 ⟨rfl, hw⟩
          subst hw
          go_wp2_with fail
          (with_reducible refine (FA.out _ 4 k _).mono ?_)
          rintro e w1 ⟨rfl, hw⟩
          subst hw
          unfold thrown
          go_wp2_with fail
          exact ⟨rfl, rfl, grown_refl _ _⟩
    · have hd' : dig c = false := by simpa using hd
      rw [hd'] at DC
      clear hrt hrz hrl
      by_cases h33 : 33 ≤ c.toNat
      · have y1 : decide ((c.toNat : Int) < 33) = false := by rw [decide_eq_false_iff_not]; omega
        have y1' : decide (c.toNat < 33) = false := by rw [decide_eq_false_iff_not]; omega
        by_cases h126 : c.toNat ≤ 126
        · have y2 : decide ((126 : Int) < (c.toNat : Int)) = false := by rw [decide_eq_false_iff_not]; omega
          have y2' : decide (126 < c.toNat) = false := by rw [decide_eq_false_iff_not]; omega
          have he0 : escS (c :: r1) k = .ok (c, 2) := by unfold escS; simp [hd']; unfold vis; rw [decide_eq_true_iff]; omega
          rw [he0]
          clear he0 hd hd' h33 h126
          show Calls _ _ _ _ fun x w' => x = .returned (.int .u8 c.toNat) ∧ Blk w' g 71 #[.string (str s), .int .i64 ((k + 2 : Nat) : Int), v] ∧ w.grownBy w' (some g)
          go_enter Try.func49, Try.ntmps49
          go_wp2_with fail
          (with_reducible refine (DC.out _).mono ?_)
          rintro e w1 ⟨rfl, hw⟩
          subst hw
          go_wp2_with fail
          go_ret
          refine ⟨rfl, ?_, grown_of_set (grown_refl _ _) (.inl rfl) 1 _⟩
          have := HB.out.set_ 1 (.int .i64 ((k : Int) + 2))
          simpa using this
        · have y2 : decide ((126 : Int) < (c.toNat : Int)) = true := by rw [decide_eq_true_iff]; omega
          have y2' : decide (126 < c.toNat) = true := by rw [decide_eq_true_iff]; omega
          have he0 : escS (c :: r1) k = .error (4, k + 1) := by unfold escS; simp [hd']; unfold vis; rw [decide_eq_false_iff_not]; omega
          rw [he0]
          clear he0 hd hd' h33 h126
          show Calls _ _ _ _ fun x w' => x = thrown (4, k + 1) ∧ w.grownBy w' (some g)
          go_enter Try.func49, Try.ntmps49
          go_wp2_with fail
          (with_reducible refine (DC.out _).mono ?_)
          rintro e w1 ⟨rfl, hw⟩
          subst hw
          go_wp2_with fail
          (with_reducible refine (FB.out _ 4 _).mono ?_)
          rintro e w1 ⟨rfl, hw⟩
          subst hw
          unfold thrown
          go_wp2_with fail
          exact ⟨rfl, rfl, grown_refl _ _⟩
      · have y1 : decide ((c.toNat : Int) < 33) = true := by rw [decide_eq_true_iff]; omega
        have y1' : decide (c.toNat < 33) = true := by rw [decide_eq_true_iff]; omega
        have he0 : escS (c :: r1) k = .error (4, k + 1) := by unfold escS; simp [hd']; unfold vis; rw [decide_eq_false_iff_not]; omega
        rw [he0]
        clear he0 hd hd' h33
        show Calls _ _ _ _ fun x w' => x = thrown (4, k + 1) ∧ w.grownBy w' (some g)
        go_enter Try.func49, Try.ntmps49
        go_wp2_with fail
        (with_reducible refine (DC.out _).mono ?_)
        rintro e w1 ⟨rfl, hw⟩
        subst hw
        go_wp2_with fail
        (with_reducible refine (FB.out _ 4 _).mono ?_)
        rintro e w1 ⟨rfl, hw⟩
        subst hw
        unfold thrown
        go_wp2_with fail
        exact ⟨rfl, rfl, grown_refl _ _⟩
end Go.Proofs.Ytcgcadhnecakaaa

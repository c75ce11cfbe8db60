/- RrlAnew: behind a whole window in which nothing came a key passes anew, as often as the limit says. -/
import Derived.Test.YtnoepnbgnlolbaaRrlN
import Derived.Test.YtnoepnbgnlolbaaKPick
namespace Go.Proofs.Ytnoepnbgnlolbaa
open Go.BK Go.RowKit Go.Maps
set_option linter.unusedVariables false
theorem wf_z : wfK 3 ⟨#[122]⟩ := ⟨by decide, by decide⟩
def stN (t : Int) (k : Nat) : Option (Int × Int) := if k = 0 then none else some (t, (k : Int))
theorem over_same {p : Par} (hp : p.ok) (t : Int) : overB p t t = false := by
  have := hp.2.2.2.2.1
  unfold overB; simp; omega
theorem stN_step {p : Par} (hp : p.ok) (t : Int) (k : Nat) (hk : k ≤ 1000) : stepO p t (stN t k) = (t, (k : Int) + 1) ∧ stN t (k + 1) = some (stepO p t (stN t k)) := by
  have h1 : stepO p t (stN t k) = (t, (k : Int) + 1) := by
    unfold stN
    by_cases h : k = 0
    · subst h; rfl
    · rw [if_neg h]
      show (bumpB p t t, bumpK p t t k) = _
      unfold bumpB bumpK
      rw [over_same hp t]
      simp
      omega
  refine ⟨h1, ?_⟩
  rw [h1]
  unfold stN
  rw [if_neg (by omega)]
  simp
/-- The first one behind a whole window. -/
theorem stN_anew {p : Par} (hp : p.ok) (t : Int) (k : Nat) : stepO p (t + p.window) (stN t k) = (t + p.window, 1) := by
  unfold stN
  by_cases h : k = 0
  · subst h; rfl
  · rw [if_neg h]
    show (bumpB p (t + p.window) t, bumpK p (t + p.window) t k) = _
    unfold bumpB bumpK
    have : overB p (t + p.window) t = true := by unfold overB; simp; omega
    rw [this]; rfl
theorem code_pass {p : Par} (k : Int) (h : k ≤ p.limit) : codeS p k = 0 := by unfold codeS; rw [if_pos (by omega)]
theorem code_not {p : Par} (k : Int) (h : p.limit < k) : codeS p k = 1 ∨ codeS p k = 2 := by
  unfold codeS
  rw [if_neg (by omega)]
  split <;> simp
set_option maxHeartbeats 8000000 in
set_option maxRecDepth 100000 in
theorem anew_walk (limit window slip many now : Int) (w : World) (h1 : -9223372036854775808 ≤ limit ∧ limit ≤ 9223372036854775807) (h2 : -9223372036854775808 ≤ window ∧ window ≤ 9223372036854775807) (h3 : -9223372036854775808 ≤ slip ∧ slip ≤ 9223372036854775807)
    (h4 : -9223372036854775808 ≤ many ∧ many ≤ 9223372036854775807) (h5 : -9223372036854775808 ≤ now ∧ now ≤ 9223372036854775807) :
    Calls Try.prog 7 #[.int .i64 limit, .int .i64 window, .int .i64 slip, .int .i64 many, .int .i64 now] w fun e w' => e = .returned (.bool true) ∧ Below w.heap.size w w' := by
  have CP := hid (fun W => pick_any many 200 W h4 (by decide))
  obtain ⟨m, hm, hm2⟩ : ∃ m : Nat, (m : Int) = pick many 200 ∧ m < 200 := by
    have := pick_range many 200 (by decide)
    exact ⟨(pick many 200).toNat, by omega, by omega⟩
  rw [← hm] at CP
  clear hm h4
  by_cases hok : ¬ (1 ≤ limit ∧ limit ≤ 50 ∧ 1 ≤ window ∧ window ≤ 1000 ∧ 0 ≤ slip ∧ slip ≤ 1073741824 ∧ 0 ≤ now ∧ now ≤ 1073741824)
  · have hh : limit < 1 ∨ ¬ limit < 1 ∧ (50 < limit ∨ ¬ 50 < limit ∧ (window < 1 ∨ ¬ window < 1 ∧ (1000 < window ∨ ¬ 1000 < window ∧ (slip < 0 ∨ ¬ slip < 0 ∧ (1073741824 < slip ∨ ¬ 1073741824 < slip ∧ (now < 0 ∨ ¬ now < 0 ∧ 1073741824 < now)))))) := by omega
    clear hok h1 h2 h3 h5
    rcases hh with h1 | ⟨h1, h2 | ⟨h2, h3 | ⟨h3, h4 | ⟨h4, h5 | ⟨h5, h6 | ⟨h6, h7 | ⟨h7, h8⟩⟩⟩⟩⟩⟩⟩
    all_goals
      go_enter Try.func7, Try.ntmps7
      go_wp2_with fail
      refine (awake_yes _).mono ?_
      rintro e w1 ⟨rfl, x1⟩
      go_wp2_with fail
      refine (CP.out _).mono ?_
      rintro e _ ⟨rfl, rfl⟩
      go_wp2_with fail
      go_ret
      exact ⟨rfl, x1⟩
  obtain ⟨a1, a2, a3, a4, a5, a6, a7, a8⟩ : 1 ≤ limit ∧ limit ≤ 50 ∧ 1 ≤ window ∧ window ≤ 1000 ∧ 0 ≤ slip ∧ slip ≤ 1073741824 ∧ 0 ≤ now ∧ now ≤ 1073741824 := by omega
  have hp : Par.ok ⟨1, limit, window, slip⟩ := by unfold Par.ok; simp only; omega
  obtain ⟨p, hpe⟩ : ∃ p : Par, p = ⟨1, limit, window, slip⟩ := ⟨_, rfl⟩
  have hpl : p.limit = limit := by rw [hpe]
  have hpw : p.window = window := by rw [hpe]
  have CN := hid (fun W => one_new 1 limit window slip W 3 ⟨#[122]⟩ hp)
  rw [← hpe] at CN hp
  obtain ⟨lm, hlm⟩ : ∃ l : Nat, (l : Int) = limit := ⟨limit.toNat, by omega⟩
  have HP := hid hp
  have HPL := hid hpl
  have HPW := hid hpw
  have n1 : ¬ limit < 1 := by omega
  have n2 : ¬ 50 < limit := by omega
  have n3 : ¬ window < 1 := by omega
  have n4 : ¬ 1000 < window := by omega
  have n5 : ¬ slip < 0 := by omega
  have n6 : ¬ 1073741824 < slip := by omega
  have n7 : ¬ now < 0 := by omega
  have n8 : ¬ 1073741824 < now := by omega
  clear hok h1 h2 h3 h5 hp hpl hpw hpe
  subst hlm
  go_enter Try.func7, Try.ntmps7
  go_wp2_with fail
  refine (awake_yes _).mono ?_
  rintro e w1 ⟨rfl, x1⟩
  go_wp2_with fail
  refine (CP.out _).mono ?_
  rintro e _ ⟨rfl, rfl⟩
  go_wp2_with fail
  refine (CN.out _).mono ?_
  rintro e w2 ⟨g, rfl, hL, x2⟩
  have hz1 := x1.size
  have hL2 := hid (hL.mono (V := fun j => w.heap.size ≤ j) fun j _ h => by have := h.1; omega)
  have hw2 := hid (ext_trans x1 x2)
  clear hL x1 x2 CN
  go_wp2_with fail
  go_loopw [14] (fun i wr => ∃ k : Nat, k ≤ m ∧ i = .int .i64 k ∧ OneL (fun j => w.heap.size ≤ j) wr g p (if k = 0 then 0 else now) 3 ⟨#[122]⟩ (stN now k) ∧ Below w.heap.size w wr) (fun i _ => m - (intOf i).toNat)
  case atStart => exact ⟨0, Nat.zero_le _, rfl, hL2.out, hw2.out⟩
  case round =>
    obtain ⟨k, hk, rfl, hL, hb⟩ := hrel
    clear hL2 hw2
    by_cases hlt : k < m
    · obtain ⟨s1, s2⟩ := stN_step HP.out now k (by omega)
      have hbz := hb.size
      have C := hid (one_step now now hL wf_z (fun j hj => by omega) ⟨by omega, by omega⟩ (by split <;> omega))
      rw [s1] at C s2
      obtain ⟨cd, hcd⟩ : ∃ cd, codeS p ((k : Int) + 1) = cd := ⟨_, rfl⟩
      rw [show ((now, (k : Int) + 1) : Int × Int).2 = (k : Int) + 1 from rfl, hcd] at C
      have hbz' : w.heap.size ≤ wr.heap.size := hbz
      have S2 := hid s2
      have HB := hid hb
      by_cases hlk : k < lm
      · have hc0 : cd = 0 := by rw [← hcd]; exact code_pass _ (by rw [HPL.out]; omega)
        subst hc0
        have y1 : decide ((k : Int) < (lm : Int)) = true := by simp; omega
        clear s1 s2 hL hb hcd
        go_wp2_with fail
        refine C.out.mono ?_
        rintro e w3 ⟨rfl, h3, hs3⟩
        go_wp2_with fail
        go_roundw
        case rel => exact ⟨k + 1, by omega, by go_num, by rw [if_neg (by omega), S2.out]; exact h3, Below.trans HB.out (hs3.below hbz' fun j hj h => by omega)⟩
        case measure => simp [intOf]; omega
      · have hc0 : (cd == 0) = false := by rcases code_not (p := p) ((k : Int) + 1) (by rw [HPL.out]; omega) with h | h <;> · rw [← hcd, h]; rfl
        have y1 : decide ((k : Int) < (lm : Int)) = false := by simp; omega
        clear s1 s2 hL hb hcd
        go_wp2_with fail
        refine C.out.mono ?_
        rintro e w3 ⟨rfl, h3, hs3⟩
        go_wp2_with fail
        go_roundw
        case rel => exact ⟨k + 1, by omega, by go_num, by rw [if_neg (by omega), S2.out]; exact h3, Below.trans HB.out (hs3.below hbz' fun j hj h => by omega)⟩
        case measure => simp [intOf]; omega
    · obtain rfl : k = m := by omega
      obtain ⟨wo, hwo⟩ : ∃ wo, wo = wr := ⟨_, rfl⟩
      subst hwo
      have HL := hid hL
      have HB := hid hb
      clear hL hb
      go_wp2_with fail
      go_loopw [15] (fun i wr => ∃ k2 : Nat, k2 ≤ lm ∧ i = .int .i64 k2 ∧ OneL (fun j => w.heap.size ≤ j) wr g p (if k2 = 0 then (if k = 0 then 0 else now) else now + window) 3 ⟨#[122]⟩ (if k2 = 0 then stN now k else stN (now + window) k2) ∧ Below w.heap.size w wr) (fun i _ => lm - (intOf i).toNat)
      case atStart => exact ⟨0, Nat.zero_le _, rfl, HL.out, HB.out⟩
      case round =>
        obtain ⟨k2, hk2, rfl, hL, hb⟩ := hrel
        clear HL HB
        have hbz : w.heap.size ≤ wr.heap.size := hb.size
        have C := hid (one_step (now + window) (now + window) hL wf_z (fun j hj => by omega) ⟨by omega, by omega⟩ (by split <;> (try split) <;> omega))
        have hst : stepO p (now + window) (if k2 = 0 then stN now k else stN (now + window) k2) = (now + window, (k2 : Int) + 1) := by
          by_cases h0 : k2 = 0
          · subst h0
            have := stN_anew HP.out now k
            rw [HPW.out] at this
            rw [if_pos rfl, this]; rfl
          · rw [if_neg h0]; exact (stN_step HP.out (now + window) k2 (by omega)).1
        rw [hst] at C
        have HB := hid hb
        clear hst hL hb
        by_cases hlt : k2 < lm
        · rw [show codeS p ((now + window, (k2 : Int) + 1) : Int × Int).2 = 0 from code_pass _ (by rw [HPL.out]; show (k2 : Int) + 1 ≤ _; omega)] at C
          go_wp2_with fail
          refine C.out.mono ?_
          rintro e w3 ⟨rfl, h3, hs3⟩
          go_wp2_with fail
          go_roundw
          case rel => exact ⟨k2 + 1, by omega, by go_num, by rw [if_neg (by omega), if_neg (by omega)]; rw [show stN (now + window) (k2 + 1) = some (now + window, (k2 : Int) + 1) from by unfold stN; rw [if_neg (by omega)]; simp]; exact h3, Below.trans HB.out (hs3.below hbz fun j hj h => by omega)⟩
          case measure => simp [intOf]; omega
        · obtain rfl : k2 = lm := by omega
          obtain ⟨cd, hcd⟩ : ∃ cd, codeS p ((now + window, (k2 : Int) + 1) : Int × Int).2 = cd := ⟨_, rfl⟩
          rw [hcd] at C
          have hc0 : (cd != 0) = true := by rcases code_not (p := p) ((k2 : Int) + 1) (by rw [HPL.out]; omega) with h | h <;> · rw [← hcd]; show (codeS p ((k2 : Int) + 1) != 0) = true; rw [h]; rfl
          clear hcd
          go_wp2_with fail
          refine C.out.mono ?_
          rintro e w3 ⟨rfl, h3, hs3⟩
          go_wp2_with fail
          go_ret
          exact ⟨rfl, Below.trans HB.out (hs3.below hbz fun j hj h => by omega)⟩
end Go.Proofs.Ytnoepnbgnlolbaa

import Derived.Test.YtcddfenhkljpeaaCsB
import Derived.Deep.QuietTactic
import Derived.BigQuiet
/- The small functions on lists of texts that the statements share: SameTexts. -/
namespace Go.Proofs.Ytcddfenhkljpeaa
open Go.BK Go.RowKit
set_option linter.unusedVariables false

/-- SameTexts: whether two lists of texts are the same. -/
theorem same_texts {A B : Option Addr} {ca cb : Nat} {a b : List (List UInt8)} {w : World} (ha : RdG w 1 A a.length ca (tvs a)) (hb : RdG w 1 B b.length cb (tvs b)) (h9 : a.length ≤ 1000000) :
    Calls Try.prog 55 #[.slice A a.length ca, .slice B b.length cb] w fun e w' => e = .returned (.bool (decide (a = b))) ∧ Ext w w' := by
  have RA := hid ha
  have RB := hid hb
  have a9 := ha.n_le
  have b9 := hb.n_le
  obtain ⟨V, hV⟩ : ∃ V, V = decide (a = b) := ⟨_, rfl⟩
  rw [← hV]
  have HV := hid hV
  clear ha hb hV
  by_cases hl : a.length = b.length
  · have z0 : ((a.length : Int) != (b.length : Int)) = false := by simp [hl]
    have HL := hid hl
    clear hl
    go_enter Try.func55, Try.ntmps55
    go_wp2_with fail
    go_loopw [5] (fun iv wr => ∃ k : Nat, k ≤ a.length ∧ iv = .int .i64 k ∧ Hid (a.take k = b.take k) ∧ Hid (Ext w wr)) (fun iv _ => a.length - (intOf iv).toNat)
    case atStart => exact ⟨0, Nat.zero_le _, rfl, hid rfl, hid (ext_refl _)⟩
    case round =>
      obtain ⟨k, hk, rfl, HT, XX⟩ := hrel
      by_cases hlt : k < a.length
      · obtain ⟨g, o, hA, hg, hc⟩ := tvs_at (RA.out.ext XX.out) hlt
        obtain ⟨g2, o2, hB, hg2, hc2⟩ := tvs_at (RB.out.ext XX.out) (k := k) (by rw [← HL.out]; exact hlt)
        subst hA
        subst hB
        obtain ⟨s, hs⟩ : ∃ s, s = a.getD k [] := ⟨_, rfl⟩
        obtain ⟨t, ht⟩ : ∃ t, t = b.getD k [] := ⟨_, rfl⟩
        rw [← hs] at hc
        rw [← ht] at hc2
        have h1 : (k : Int) < (a.length : Int) := by omega
        have h2 : (k : Int) < (b.length : Int) := by have := HL.out; omega
        have e1 : a.take (k + 1) = a.take k ++ [s] := by rw [List.take_add_one, hs, List.getD_eq_getElem?_getD, List.getElem?_eq_getElem hlt]; rfl
        have e2 : b.take (k + 1) = b.take k ++ [t] := by have := HL.out; rw [List.take_add_one, ht, List.getD_eq_getElem?_getD, List.getElem?_eq_getElem (by omega)]; rfl
        have HE := hid (And.intro e1 e2)
        obtain ⟨ts, hts⟩ : ∃ x, x = str s := ⟨_, rfl⟩
        obtain ⟨tt, htt⟩ : ∃ x, x = str t := ⟨_, rfl⟩
        rw [← hts] at hc
        rw [← htt] at hc2
        have hq : (ts.toList == tt.toList) = (s == t) := by rw [hts, htt, str_toList, str_toList]
        clear hs ht e1 e2 hts htt
        by_cases he : s = t
        · have q1 : (ts.toList == tt.toList) = true := by rw [hq]; simpa using he
          have q2 : (ts.toList != tt.toList) = false := by simp [bne, q1]
          have hn : Hid (a.take (k + 1) = b.take (k + 1)) := hid (by rw [HE.out.1, HE.out.2, HT.out, he])
          clear hq he
          go_wp2_with fail
          go_quiet (fail)
          go_wp2_with fail
          exact ⟨⟨k + 1, by omega, by go_num, hn, hid (ext_trans XX.out (ext_drewN _ _))⟩, by simp [intOf]; omega⟩
        · have q1 : (ts.toList == tt.toList) = false := by rw [hq]; simpa using he
          have q2 : (ts.toList != tt.toList) = true := by simp [bne, q1]
          have hv : V = false := by
            rw [HV.out, decide_eq_false_iff_not]
            intro e
            have h3 : a.take (k + 1) = b.take (k + 1) := by rw [e]
            rw [HE.out.1, HE.out.2, HT.out] at h3
            exact he (by simpa using h3)
          clear hq he
          go_wp2_with fail
          go_quiet (fail)
          go_wp2_with fail
          go_ret
          rw [hv]
          exact ⟨rfl, ext_trans XX.out (ext_drewN _ _)⟩
      · obtain rfl : k = a.length := by omega
        have hv : V = true := by
          rw [HV.out, decide_eq_true_iff]
          have := HT.out
          rw [List.take_length, HL.out, List.take_length] at this
          exact this
        clear hlt hk
        go_wp2_with fail
        go_ret
        rw [hv]
        exact ⟨rfl, XX.out⟩
  · have z0 : ((a.length : Int) != (b.length : Int)) = true := by simp; omega
    have hv : V = false := by
      rw [HV.out, decide_eq_false_iff_not]
      rintro rfl
      exact hl rfl
    clear hl
    go_enter Try.func55, Try.ntmps55
    go_wp2_with fail
    go_ret
    rw [hv]
    exact ⟨rfl, ext_refl _⟩
end Go.Proofs.Ytcddfenhkljpeaa

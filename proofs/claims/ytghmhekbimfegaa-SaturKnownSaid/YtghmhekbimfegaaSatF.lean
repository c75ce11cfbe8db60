/- Sums of counts; the chapter's examples. -/
import Derived.Test.YtghmhekbimfegaaSatE
namespace Go.BK
open Go.RowKit
theorem RdG.lit_at (w : World) (g : Nat) (vs : List Value) (e : TypeId) (arr : Array Value) (hg : g = w.heap.size) (h : arr = vs.toArray) (hc : vs.length ≤ maxLen) :
    RdG (w.alloc (.cells arr e)) 1 (some ⟨g, 0, none⟩) vs.length vs.length vs := by
  subst hg; subst h
  have := OwnG.new (ok := fun _ => True) (base := 0) (size := 1) (e := e) w vs vs.length vs.length (Nat.zero_le _) (by simp) (Nat.le_refl _) hc (fun _ _ => trivial)
  simpa using this.rd
def sumN (l : List Int) : Nat := l.foldl (fun n x => addN n (cutN x)) 0
theorem sumN_snoc (l : List Int) (x : Int) : sumN (l ++ [x]) = addN (sumN l) (cutN x) := by simp [sumN]
theorem sumN_le (l : List Int) : sumN l ≤ SM := by
  rcases List.eq_nil_or_concat l with rfl | ⟨l', x, rfl⟩
  · exact Nat.zero_le _
  · rw [List.concat_eq_append, sumN_snoc]; exact addN_le _ _
theorem RdI.at_ {w : World} {A : Option Addr} {c : Nat} {l : List Int} (h : RdI w A c l) {k : Nat} (hk : k < l.length) : ∃ b o, A = some ⟨b, o, none⟩ ∧ w.cell? ⟨b, o + k, none⟩ = some (.int .i64 l[k]) := by
  obtain ⟨b, o, h1, h2, h3⟩ := RdG.at_ h.1 hk
  exact ⟨b, o, h1, by rw [h3]; simp [hk]⟩
theorem take_snoc (l : List Int) (k : Nat) (h : k < l.length) : l.take (k + 1) = l.take k ++ [l[k]] := by
  rw [List.take_succ_eq_append_getElem h]
theorem RdI.ext {w w' : World} {A : Option Addr} {c : Nat} {l : List Int} (h : RdI w A c l) (e : Ext w w') : RdI w' A c l := ⟨RdG.ext h.1 e, h.2⟩
end Go.BK
namespace Go.Proofs.Ytghmhekbimfegaa
open Go.BK Go.RowKit
set_option linter.unusedVariables false

set_option maxHeartbeats 1000000 in
theorem sum_any {A : Option Addr} {c : Nat} {l : List Int} {w : World} (h : RdI w A c l) :
    Calls Try.prog 22 #[.slice A l.length c] w fun e w' => e = .returned (.int .i64 (sumN l : Nat)) ∧ w = w' := by
  have hl := h.1.n_le
  have HR := hid h
  clear h
  go_enter Try.func22, Try.ntmps22
  go_wp2
  go_loopw [3, 8] (fun n i wr => ∃ k : Nat, k ≤ l.length ∧ i = .int .i64 k ∧ n = .int .i64 (sumN (l.take k) : Nat) ∧ wr = w) (fun _ i _ => l.length - (intOf i).toNat)
  case atStart => exact ⟨0, Nat.zero_le _, rfl, rfl, rfl⟩
  case round =>
    obtain ⟨k, hk, rfl, rfl, rfl⟩ := hrel
    by_cases hlt : k < l.length
    · obtain ⟨b, o, rfl, hc⟩ := HR.out.at_ hlt
      have hs := sumN_snoc (l.take k) l[k]
      rw [← take_snoc l k hlt] at hs
      have hsl := sumN_le (l.take k)
      have C := hid (fun W => add_any (sumN (l.take k) : Nat) l[k] W)
      rw [cutN_of hsl, ← hs] at C
      have hsl' : sumN (l.take k) ≤ 9007199254740992 := hsl
      generalize sumN (l.take k) = n0 at *
      generalize l[k] = x at *
      clear hs hsl
      go_wp2_with fail
      refine (C.out _).mono ?_; rintro e w1 ⟨rfl, rfl⟩
      go_wp2_with fail
      go_roundw
      case rel => exact ⟨k + 1, by omega, by go_num, rfl, trivial⟩
      case measure => simp [intOf]; omega
    · have hke : k = l.length := by omega
      subst hke
      rw [List.take_length]
      clear hlt hk
      go_wp2_with fail
      go_ret
      exact ⟨rfl, rfl⟩
set_option maxHeartbeats 1000000 in
theorem rsum_any {A : Option Addr} {c : Nat} {l : List Int} {w : World} (h : RdI w A c l) :
    Calls Try.prog 23 #[.slice A l.length c] w fun e w' => e = .returned (.int .i64 (sumN l : Nat)) ∧ w = w' := by
  have hl := h.1.n_le
  have HR := hid h
  clear h
  go_enter Try.func23, Try.ntmps23
  go_wp2
  go_loopw [3, 4] (fun n i wr => ∃ k : Nat, k ≤ l.length ∧ i = .int .i64 k ∧ n = .int .i64 (sumN (l.take k) : Nat) ∧ wr = w) (fun _ i _ => l.length - (intOf i).toNat)
  case atStart => exact ⟨0, Nat.zero_le _, rfl, rfl, rfl⟩
  case round =>
    obtain ⟨k, hk, rfl, rfl, rfl⟩ := hrel
    by_cases hlt : k < l.length
    · obtain ⟨b, o, rfl, hc⟩ := HR.out.at_ hlt
      have hs := sumN_snoc (l.take k) l[k]
      rw [← take_snoc l k hlt] at hs
      have hsl := sumN_le (l.take k)
      have C := hid (fun W => radd_any (sumN (l.take k) : Nat) l[k] W)
      rw [cutN_of hsl, ← hs] at C
      have hsl' : sumN (l.take k) ≤ 9007199254740992 := hsl
      generalize sumN (l.take k) = n0 at *
      generalize l[k] = x at *
      clear hs hsl
      go_wp2_with fail
      refine (C.out _).mono ?_; rintro e w1 ⟨rfl, rfl⟩
      go_wp2_with fail
      go_roundw
      case rel => exact ⟨k + 1, by omega, by go_num, rfl, trivial⟩
      case measure => simp [intOf]; omega
    · have hke : k = l.length := by omega
      subst hke
      rw [List.take_length]
      clear hlt hk
      go_wp2_with fail
      go_ret
      exact ⟨rfl, rfl⟩

theorem known_yes (w : World) : Calls Try.prog 7 #[] w fun e w' => e = .returned (.bool true) ∧ Below w.heap.size w w' := by
  have c1 := hid (fun W => cut_any (-5) W)
  have c2 := hid (fun W => cut_any 9007199254740993 W)
  have c3 := hid (fun W => mul_any 1073741824 1073741824 W)
  have c4 := hid (fun W => div_any 7 0 W)
  have c5 := hid (fun W => div_any 0 0 W)
  have c6 := hid (fun W => scale_any 9007199254740992 3 4 W)
  have c7 := hid (fun W => scale_any 5 3 0 W)
  rw [show cutN (-5) = 0 from by decide +kernel] at c1
  rw [show cutN 9007199254740993 = 9007199254740992 from by decide +kernel] at c2
  rw [show mulN (cutN 1073741824) (cutN 1073741824) = 9007199254740992 from by decide +kernel] at c3
  rw [show divN (cutN 7) (cutN 0) = 9007199254740992 from by decide +kernel] at c4
  rw [show divN (cutN 0) (cutN 0) = 0 from by decide +kernel] at c5
  rw [show scaleN (cutN 9007199254740992) (cutN 3) (cutN 4) = 6755399441055744 from by decide +kernel] at c6
  rw [show scaleN (cutN 5) (cutN 3) (cutN 0) = 9007199254740992 from by decide +kernel] at c7
  have hS := hid (show sumN [1, 2, -9, 3] = 6 from by decide +kernel)
  go_enter Try.func7, Try.ntmps7
  go_wp2_with fail
  refine (c1.out _).mono ?_; rintro e wx ⟨rfl, rfl⟩
  go_wp2_with fail
  refine (c2.out _).mono ?_; rintro e wx ⟨rfl, rfl⟩
  go_wp2_with fail
  refine (c3.out _).mono ?_; rintro e wx ⟨rfl, ma, rfl⟩
  go_wp2_with fail
  refine (c4.out _).mono ?_; rintro e wx ⟨rfl, mb, rfl⟩
  go_wp2_with fail
  refine (c5.out _).mono ?_; rintro e wx ⟨rfl, mc, rfl⟩
  go_wp2_with fail
  refine (awake_yes _).mono ?_; rintro e wx ⟨rfl, md, rfl⟩
  go_wp2_with fail
  refine (c6.out _).mono ?_; rintro e wx ⟨rfl, me, rfl⟩
  go_wp2_with fail
  refine (c7.out _).mono ?_; rintro e wx ⟨rfl, mf, rfl⟩
  go_wp2_with fail
  have c8 := sum_any (A := some ⟨w.heap.size, 0, none⟩) (c := 4) (l := [1, 2, -9, 3]) ⟨RdG.lit_at (w.drewN (ma + mb + mc + md + me + mf)) w.heap.size [.int .i64 1, .int .i64 2, .int .i64 (-9), .int .i64 3] 3 #[.int .i64 1, .int .i64 2, .int .i64 (-9), .int .i64 3] (by simp) rfl (by simp [maxLen]), by decide⟩
  rw [hS.out] at c8
  refine c8.mono ?_; rintro e wy ⟨rfl, rfl⟩
  go_wp2_with fail
  go_ret
  exact ⟨rfl, ext_trans (ext_drewN _ _) (ext_alloc _ _)⟩

theorem count_yes (x : Nat) (h : x ≤ 9007199254740992) (w : World) : Calls Try.prog 24 #[.int .i64 (x : Int)] w fun e w' => e = .returned (.bool true) ∧ w = w' := by
  have h1 : decide ((x : Int) ≤ 9007199254740992) = true := by rw [decide_eq_true_iff]; omega
  go_enter Try.func24, Try.ntmps24
  go_wp2
  go_ret
  exact ⟨rfl, rfl⟩
end Go.Proofs.Ytghmhekbimfegaa

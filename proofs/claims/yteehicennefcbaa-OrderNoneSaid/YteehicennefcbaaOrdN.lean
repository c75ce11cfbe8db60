/- OrderNone: a window that is none, or that New did not make, answers nothing. -/
import Derived.Test.YteehicennefcbaaOrdF
namespace Go.Proofs.Yteehicennefcbaa
open Go.BK Go.RowKit
set_option linter.unusedVariables false

/-- A window that is none. -/
def NoW (w : World) (p : Option Addr) : Prop := p = none ∨ ∃ g, p = some ⟨g, 0, none⟩ ∧ Blk w g 53 #[.int .i64 0, .int .i64 0, .int .i64 0, .map none]
theorem NoW.ext {w w' : World} {p : Option Addr} (h : NoW w p) (e : Ext w w') : NoW w' p := by
  rcases h with h | ⟨g, h1, h2⟩
  · exact .inl h
  · exact .inr ⟨g, h1, h2.ext e⟩
section
variable {w : World} {p : Option Addr}
theorem now_none (h : NoW w p) : Calls Try.prog 26 #[.pointer p] w fun e w' => e = .returned (.bool true) ∧ w = w' := by
  rcases h with rfl | ⟨g, rfl, hb⟩
  · exact none_nil w
  · have q := hb.cell 0
    simp only [List.getElem?_toArray, List.getElem?_cons_zero] at q
    clear hb
    go_enter Try.func26, Try.ntmps26
    go_wp2
    go_ret
    exact ⟨rfl, rfl⟩
theorem now_open (h : NoW w p) : Calls Try.prog 11 #[.pointer p] w fun e w' => e = .returned (.tuple #[.int .i64 0, .int .i64 1]) ∧ w = w' := by
  have hn := now_none h
  go_enter Try.func11, Try.ntmps11
  go_wp2_with fail
  refine hn.mono ?_; rintro e w1 ⟨rfl, rfl⟩
  go_wp2_with fail
  go_ret2
  exact ⟨rfl, rfl⟩
theorem now_done (h : NoW w p) (n : Int) (A : Option Addr) (l c : Nat) : Calls Try.prog 12 #[.pointer p, .int .i64 n, .slice A l c] w fun e w' => e = .returned (.tuple #[.slice none 0 0, .int .i64 1]) ∧ w = w' := by
  have hn := now_none h
  go_enter Try.func12, Try.ntmps12
  go_wp2_with fail
  refine hn.mono ?_; rintro e w1 ⟨rfl, rfl⟩
  go_wp2_with fail
  go_ret2
  exact ⟨rfl, rfl⟩
theorem now_len (h : NoW w p) : Calls Try.prog 15 #[.pointer p] w fun e w' => e = .returned (.int .i64 0) ∧ w = w' := by
  have hn := now_none h
  go_enter Try.func15, Try.ntmps15
  go_wp2_with fail
  refine hn.mono ?_; rintro e w1 ⟨rfl, rfl⟩
  go_wp2_with fail
  go_ret
  exact ⟨rfl, rfl⟩
theorem now_first (h : NoW w p) : Calls Try.prog 13 #[.pointer p] w fun e w' => e = .returned (.int .i64 0) ∧ w = w' := by
  have hn := now_none h
  go_enter Try.func13, Try.ntmps13
  go_wp2_with fail
  refine hn.mono ?_; rintro e w1 ⟨rfl, rfl⟩
  go_wp2_with fail
  go_ret
  exact ⟨rfl, rfl⟩
theorem now_ready (h : NoW w p) : Calls Try.prog 24 #[.pointer p] w fun e w' => e = .returned (.int .i64 0) ∧ w = w' := by
  have hn := now_none h
  go_enter Try.func24, Try.ntmps24
  go_wp2_with fail
  refine hn.mono ?_; rintro e w1 ⟨rfl, rfl⟩
  go_wp2_with fail
  go_ret
  exact ⟨rfl, rfl⟩
end

set_option maxRecDepth 100000 in
set_option maxHeartbeats 2000000 in
theorem none_walk (n : Int) {A : Option Addr} {c : Nat} {l : Bs} (w : World) (hn : -9223372036854775808 ≤ n ∧ n ≤ 9223372036854775807) (hA : Rd w A c l) :
    Calls Try.prog 5 #[.int .i64 n, .slice A l.length c] w fun e w' => e = .returned (.bool true) ∧ Ext w w' := by
  have hl9 := hA.n_le
  clear hA
  by_cases hbig : 1000 < l.length
  · go_enter Try.func5, Try.ntmps5
    go_wp2_with fail
    refine (awake_yes _).mono ?_; rintro e w1 ⟨rfl, B1⟩
    go_wp2_with fail
    go_ret
    exact ⟨rfl, B1⟩
  go_enter Try.func5, Try.ntmps5
  go_wp2_with fail
  have hb := Blk.new w 53 #[.int .i64 0, .int .i64 0, .int .i64 0, .map none]
  have E : Ext w ((w.alloc (.cells #[.int .i64 0, .int .i64 0, .int .i64 0, .map none] 53)).alloc (.cells #[.pointer none, .pointer (some ⟨w.heap.size, 0, none⟩)] 25)) := ext_trans (ext_alloc _ _) (ext_alloc _ _)
  have hl := Blk.new (w.alloc (.cells #[.int .i64 0, .int .i64 0, .int .i64 0, .map none] 53)) 25 #[.pointer none, .pointer (some ⟨w.heap.size, 0, none⟩)]
  have hb := hb.alloc (.cells #[.pointer none, .pointer (some ⟨w.heap.size, 0, none⟩)] 25)
  rw [show (w.alloc (.cells #[.int .i64 0, .int .i64 0, .int .i64 0, .map none] 53)).heap.size = w.heap.size + 1 from by simp] at hl
  generalize (w.alloc (.cells #[.int .i64 0, .int .i64 0, .int .i64 0, .map none] 53)).alloc (.cells #[.pointer none, .pointer (some ⟨w.heap.size, 0, none⟩)] 25) = W at *
  have hp : ∀ k, k < 2 → ∃ p, W.cell? ⟨w.heap.size + 1, k, none⟩ = some (.pointer p) ∧ NoW W p := fun k hk => by
    rcases k with _ | _ | k
    · exact ⟨none, hl.cell 0, .inl rfl⟩
    · exact ⟨some ⟨w.heap.size, 0, none⟩, hl.cell 1, .inr ⟨_, rfl, hb⟩⟩
    · omega
  have HP := hid hp
  have HE := hid E
  clear hb hl hp E
  go_loopw [7] (fun i wr => ∃ k : Nat, k ≤ 2 ∧ i = .int .i64 k ∧ wr = W) (fun i _ => 2 - (intOf i).toNat)
  case atStart => exact ⟨0, by omega, rfl, rfl⟩
  case round =>
    obtain ⟨k, hk, rfl, rfl⟩ := hrel
    by_cases hlt : k < 2
    · obtain ⟨q, hc, hq⟩ := HP.out k hlt
      have h1 := hid (now_open hq)
      have h2 := hid (now_done hq n A l.length c)
      have h3 := hid (now_len hq)
      have h4 := hid (now_first hq)
      have h5 := hid (now_ready hq)
      clear hq
      go_wp2_with fail
      refine h1.out.mono ?_; rintro e w1 ⟨rfl, hw⟩; subst hw
      go_wp2_with fail
      refine h2.out.mono ?_; rintro e w1 ⟨rfl, hw⟩; subst hw
      go_wp2_with fail
      refine h3.out.mono ?_; rintro e w1 ⟨rfl, hw⟩; subst hw
      go_wp2_with fail
      refine h4.out.mono ?_; rintro e w1 ⟨rfl, hw⟩; subst hw
      go_wp2_with fail
      refine h5.out.mono ?_; rintro e w1 ⟨rfl, hw⟩; subst hw
      go_wp2_with fail
      go_roundw
      case rel => exact ⟨k + 1, by omega, by go_num, trivial⟩
      case measure => simp [intOf]; omega
    · have hke : k = 2 := by omega
      subst hke
      clear hlt hk
      go_wp2_with fail
      refine (awake_yes _).mono ?_; rintro e w1 ⟨rfl, B1⟩
      have BZ := below_ext HE.out HE.out.size B1
      go_wp2_with fail
      go_ret
      exact ⟨rfl, BZ⟩
end Go.Proofs.Yteehicennefcbaa

/- OrderScript: calls that are handed in, Long, what both windows tell. -/
import Derived.Test.YteehicennefcbaaOrdU
namespace Go.Proofs.Yteehicennefcbaa
open Go.BK Go.RowKit
set_option linter.unusedVariables false

def BActR (w : World) (A : Option Addr) (n c : Nat) (K : Nat → Bool) (N : Nat → Int) (S : Nat → Sl) : Prop :=
  n ≤ c ∧ c ≤ maxLen ∧ ∀ i, i < n → ∃ b o, A = some ⟨b, o, none⟩ ∧ b < w.heap.size ∧ w.cell? ⟨b, o + i * 3, none⟩ = some (.bool (K i)) ∧ w.cell? ⟨b, o + i * 3 + 1, none⟩ = some (.int .i64 (N i)) ∧ w.cell? ⟨b, o + i * 3 + 2, none⟩ = some (slv (S i)) ∧
      (-9223372036854775808 ≤ N i ∧ N i ≤ 9223372036854775807) ∧ Rd w (S i).1 (S i).2.1 (S i).2.2
theorem BActR.cells {w : World} {A : Option Addr} {n c : Nat} {K : Nat → Bool} {N : Nat → Int} {S : Nat → Sl} (h : BActR w A n c K N S) {k : Nat} (hk : k < n) :
    ∃ b o, A = some ⟨b, o, none⟩ ∧ b < w.heap.size ∧ (-9223372036854775808 ≤ N k ∧ N k ≤ 9223372036854775807) ∧
      (∀ W', Below w.heap.size w W' → W'.cell? ⟨b, o + k * 3, none⟩ = some (.bool (K k)) ∧ W'.cell? ⟨b, o + k * 3 + 1, none⟩ = some (.int .i64 (N k)) ∧ W'.cell? ⟨b, o + k * 3 + 2, none⟩ = some (.slice (S k).1 (S k).2.2.length (S k).2.1) ∧ Rd W' (S k).1 (S k).2.1 (S k).2.2) := by
  obtain ⟨b, o, h1, h2, h3, h4, h5, h6, h7⟩ := h.2.2 k hk
  exact ⟨b, o, h1, h2, h6, fun W' e => ⟨by rw [e.cell h2]; exact h3, by rw [e.cell h2]; exact h4, by rw [e.cell h2]; exact h5, h7.ext e⟩⟩

set_option maxHeartbeats 1000000 in
theorem long_any {w : World} {A : Option Addr} {n c : Nat} {K : Nat → Bool} {N : Nat → Int} {S : Nat → Sl} (h : BActR w A n c K N S) :
    Calls Try.prog 16 #[.slice A n c] w fun e w' => ∃ b : Bool, e = .returned (.bool b) ∧ w = w' ∧ (b = false → n ≤ 150 ∧ ∀ k, k < n → (S k).2.2.length ≤ 100) := by
  have HA := hid (fun k (hk : k < n) => h.cells hk)
  have hn9 : n ≤ 9223372036854775807 := by have := h.1; have := h.2.1; unfold maxLen at *; omega
  have hc9 : c ≤ 9223372036854775807 := by have := h.2.1; unfold maxLen at *; omega
  clear h
  go_enter Try.func16, Try.ntmps16
  go_wp2_with fail
  go_loopw [3] (fun i wr => ∃ k : Nat, k ≤ n ∧ i = .int .i64 k ∧ (∀ j, j < k → (S j).2.2.length ≤ 100) ∧ wr = w) (fun i _ => n - (intOf i).toNat)
  case atStart => exact ⟨0, Nat.zero_le _, rfl, fun j hj => by omega, rfl⟩
  case round =>
    obtain ⟨k, hk, rfl, hs, rfl⟩ := hrel
    have Hs := hid hs
    clear hs
    by_cases hlt : k < n
    · obtain ⟨bl, o, rfl, hbl, hb1, hb2⟩ := HA.out k hlt
      obtain ⟨s1, s2, s3, s4⟩ := hb2 _ (Below.refl _ _)
      have hm := s4.n_le
      clear hb2 s4 s1 s2
      by_cases h100 : 100 < (S k).2.2.length
      · have hd : decide ((100 : Int) < ((S k).2.2.length : Int)) = true := by rw [decide_eq_true_iff]; omega
        go_wp2_with fail
        go_ret
        exact ⟨true, rfl, rfl, fun h => by cases h⟩
      · have hd : decide ((100 : Int) < ((S k).2.2.length : Int)) = false := by rw [decide_eq_false_iff_not]; omega
        have hle := hid (show (S k).2.2.length ≤ 100 by omega)
        clear h100
        go_wp2_with fail
        go_roundw
        case rel =>
          refine ⟨k + 1, by omega, by go_num, fun j hj => ?_, trivial⟩
          rcases Nat.lt_or_ge j k with h | h
          · exact Hs.out j h
          · obtain rfl : j = k := by omega
            exact hle.out
        case measure => simp [intOf]; omega
    · obtain rfl : k = n := by omega
      clear hlt hk
      by_cases h150 : 150 < k
      · have hd : decide ((150 : Int) < (k : Int)) = true := by rw [decide_eq_true_iff]; omega
        go_wp2_with fail
        go_ret
        exact ⟨true, rfl, rfl, fun h => by cases h⟩
      · have hd : decide ((150 : Int) < (k : Int)) = false := by rw [decide_eq_false_iff_not]; omega
        go_wp2_with fail
        go_ret
        exact ⟨false, rfl, rfl, fun _ => ⟨by omega, Hs.out⟩⟩

theorem fm_len {α : Type} : ∀ L : List (Option α), (L.filterMap id).length ≤ L.length := fun L => List.length_filterMap_le _ _
theorem done_len (f : Nat) (L : List (Option Bs)) (n : Int) (l : Bs) : f + (doneOut f L n l).length + (doneL f L n l).length ≤ f + L.length := by
  unfold doneOut doneL
  split
  · have h1 := fm_len ((L.set (n - f).toNat (some l)).takeWhile Option.isSome)
    have h2 := congrArg List.length (List.takeWhile_append_dropWhile (p := Option.isSome) (l := L.set (n - f).toNat (some l)))
    rw [List.length_append, List.length_set] at h2
    omega
  · simp
theorem open_len (most : Nat) (L : List (Option Bs)) : (openL most L).length ≤ L.length + 1 := by
  unfold openL
  split <;> simp

section
variable {b0 : Nat} {N M : Nat → Prop} {w w' : World} {g v most f1 f2 : Nat} {L1 L2 : List (Option Bs)}
theorem duo_len (h : Duo b0 N M w g v most f1 L1 f2 L2) (hb : (f1 : Int) + L1.length ≤ 1000000) (n : Nat) :
    Calls Try.prog 15 #[.pointer (some ⟨g, 0, none⟩)] (w.drewN n) fun e w' => e = .returned (.int .i64 L1.length) ∧ ∃ m, w' = (w.drewN n).drewN m := by
  obtain ⟨U, V, h1, h2, h3, h4⟩ := h
  exact win_len (h1.ext (ext_drewN _ _)) hb
theorem duo_first (h : Duo b0 N M w g v most f1 L1 f2 L2) (hb : (f1 : Int) + L1.length ≤ 1000000) {r : Int} (hr : (if L1.length = 0 then (0 : Int) else f1) = r) (n : Nat) :
    Calls Try.prog 13 #[.pointer (some ⟨g, 0, none⟩)] (w.drewN n) fun e w' => e = .returned (.int .i64 r) ∧ ∃ m, w' = (w.drewN n).drewN m := by
  subst hr
  obtain ⟨U, V, h1, h2, h3, h4⟩ := h
  exact win_first (h1.ext (ext_drewN _ _)) hb
theorem duo_ready (h : Duo b0 N M w g v most f1 L1 f2 L2) (n : Nat) :
    Calls Try.prog 24 #[.pointer (some ⟨g, 0, none⟩)] (w.drewN n) fun e w' => e = .returned (.int .i64 (L1.countP Option.isSome)) ∧ w.drewN n = w' := by
  obtain ⟨U, V, h1, h2, h3, h4⟩ := h
  exact win_ready (h1.ext (ext_drewN _ _))
theorem duo_rfirst (h : Duo b0 N M w g v most f1 L1 f2 L2) {r : Int} (hr : (if L2.length = 0 then (0 : Int) else f2) = r) (n : Nat) :
    Calls Try.prog 23 #[.pointer (some ⟨v, 0, none⟩)] (w.drewN n) fun e w' => e = .returned (.int .i64 r) ∧ w.drewN n = w' := by
  subst hr
  obtain ⟨U, V, h1, h2, h3, h4⟩ := h
  refine (doc_first (h2.ext (ext_drewN _ n))).mono ?_
  rintro e w' ⟨rfl, rfl⟩
  exact ⟨rfl, rfl⟩
theorem duo_rready (h : Duo b0 N M w g v most f1 L1 f2 L2) (hb : (f2 : Int) + L2.length ≤ 1000000) (n : Nat) :
    Calls Try.prog 25 #[.pointer (some ⟨v, 0, none⟩)] (w.drewN n) fun e w' => e = .returned (.int .i64 (L2.countP Option.isSome)) ∧ w.drewN n = w' := by
  obtain ⟨U, V, h1, h2, h3, h4⟩ := h
  exact doc_ready (h2.ext (ext_drewN _ n)) (by omega)
theorem duo_cell (h : Duo b0 N M w g v most f1 L1 f2 L2) : ∃ A c, w.cell? ⟨v, 2, none⟩ = some (.slice A L2.length c) := by
  obtain ⟨U, V, h1, h2, h3, h4⟩ := h
  exact h2.cell
end
end Go.Proofs.Yteehicennefcbaa

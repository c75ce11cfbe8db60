/- SaturSums: what counts are together. -/
import Derived.Test.YtghmhekbimfegaaSatF
namespace Go.Proofs.Ytghmhekbimfegaa
open Go.BK Go.RowKit
set_option linter.unusedVariables false

def isI (v : Value) : Prop := ∃ n : Int, v = .int .i64 n
theorem isI.one {v : Value} (h : isI v) : v.oneCell' = true := by obtain ⟨n, rfl⟩ := h; rfl
theorem info_int : (Try.prog.info? 3).map (fun i => (i.zero, i.size, i.bytes)) = some (some (.int .i64 0), 1, 8) := by kernel_rfl
theorem isI_map (l : List Int) : ∀ u ∈ l.map (Value.int .i64), isI u := by intro u hu; obtain ⟨n, _, rfl⟩ := List.mem_map.1 hu; exact ⟨_, rfl⟩
theorem below_ext' {b : Nat} {w w1 w2 : World} (B : Below b w w1) (hb : b ≤ w1.heap.size) (e : Ext w1 w2) : Below b w w2 := B.trans (e.mono hb)

set_option maxRecDepth 100000 in
set_option maxHeartbeats 2000000 in
theorem sums_walk {A : Option Addr} {c : Nat} {l : List Int} (w : World) (hA : RdI w A c l) :
    Calls Try.prog 6 #[.slice A l.length c] w fun e w' => e = .returned (.bool true) ∧ Below w.heap.size w w' := by
  have hl9 := hA.1.n_le
  have HA := hid hA
  clear hA
  by_cases hbig : 1000 < l.length
  · go_enter Try.func6, Try.ntmps6
    go_wp2_with fail
    refine (awake_yes _).mono ?_; rintro e w1 ⟨rfl, m, rfl⟩
    go_wp2_with fail
    go_ret
    exact ⟨rfl, ext_drewN _ _⟩
  obtain ⟨i0, hi, hz0, hz1, hz2⟩ := info_parts info_int
  have hown := OwnG.new (ok := isI) (base := w.heap.size) (size := 1) (e := 3) w [] 0 0 (Nat.le_refl _) rfl (Nat.le_refl _) (by simp [maxLen]) (by simp)
  have hr : RdG (w.alloc (.cells #[] 3)) 1 A l.length c (l.map (Value.int .i64)) := RdG.ext HA.out.1 (ext_alloc _ _)
  have hi' := hid hi
  clear hi
  go_enter Try.func6, Try.ntmps6
  go_wp2_with (at_builtin; go_must (refine wpList_append_g rfl (.tmp 9) (.tmp 10) 28 rfl w.heap.size 3 i0 (.int .i64 0) 1 8 Try.underlying28 hi'.out hz0 hz1 hz2 rfl (by decide) (by simp [Value.cells]; exact ⟨0, rfl⟩) (fun _ h => h.one) (by rfl) hown (by rfl) hr (isI_map l) (by omega) (by unfold maxLen; omega) (by simp) ?_); intro A1 c1 w1 o1 g1 n1)
  simp only [Nat.zero_add, Nat.zero_mul, List.take_nil, List.nil_append] at o1
  have E1 : Ext w w1 := below_of_grown (ext_alloc w (.cells #[] 3)) (by simp) g1 (fun g h => by simp at h; omega)
  have R1 : RdI w1 A1 c1 l := ⟨o1.rd, HA.out.2⟩
  have R0 := HA.out.ext E1
  have HR1 := hid R1
  have HR0 := hid R0
  have HE1 := hid E1
  clear g1 n1 o1 hown hr R1 R0 E1
  have C1 := hid (sum_any HR1.out)
  have C2 := hid (rsum_any HR0.out)
  generalize sumN l = sl at *
  refine C1.out.mono ?_; rintro e wx ⟨rfl, rfl⟩
  go_wp2_with fail
  refine C2.out.mono ?_; rintro e wx ⟨rfl, rfl⟩
  clear C1 C2
  go_wp2_with fail
  go_loopw [4] (fun i wr => ∃ k : Nat, k ≤ l.length ∧ i = .int .i64 k ∧ Hid (Ext w1 wr)) (fun i _ => l.length - (intOf i).toNat)
  case atStart => exact ⟨0, Nat.zero_le _, rfl, hid (ext_refl _)⟩
  case round =>
    obtain ⟨k, hk, rfl, xk⟩ := hrel
    by_cases hlt : k < l.length
    · obtain ⟨b1, o1, rfl, g1⟩ := (HR1.out.ext xk.out).at_ hlt
      obtain ⟨b2, o2, rfl, g2⟩ := (HR0.out.ext xk.out).at_ hlt
      generalize l[k] = v at *
      have hi1 : (0 : Int) ≤ k := by omega
      have hi2 : (k : Int) < l.length := by omega
      go_wp2_with fail
      go_quiet (fail)
      go_wp2_with fail
      go_roundw
      case rel => exact ⟨k + 1, by omega, by go_num, hid (ext_trans xk.out (ext_drewN _ _))⟩
      case measure => simp [intOf]; omega
    · have hke : k = l.length := by omega
      subst hke
      clear hlt hk
      go_wp2_with fail
      refine (awake_yes _).mono ?_; rintro e w3 ⟨rfl, m, rfl⟩
      go_wp2_with fail
      go_ret
      exact ⟨rfl, ext_trans HE1.out (ext_trans xk.out (ext_drewN _ _))⟩
end Go.Proofs.Ytghmhekbimfegaa

/- wire.New, Packer.Known, Packer.Name. -/
import Derived.Test.YtfimfmghfjokjaaPakA
import Derived.Test.YtfimfmghfjokjaaKStr
import Derived.Test.YtfimfmghfjokjaaKStep
import Derived.Test.YtfimfmghfjokjaaOctS
import Derived.Maps.RangeWalk
import Derived.Deep.QuietTactic
import Derived.BigQuiet
namespace Go.Proofs.Ytfimfmghfjokjaa
open Go.BK Go.RowKit Go.Maps Go.BK.NM
set_option linter.unusedVariables false

set_option maxHeartbeats 1000000 in
theorem new_in (w : World) : Calls Try.prog 17 #[] w fun e w' => ∃ g mb, e = .returned (.pointer (some ⟨g, 0, none⟩)) ∧ PackW w' g mb [] 0 ∧ w.heap.size ≤ g ∧ w.heap.size ≤ mb ∧ Ext w w' := by
  have hmm := @run_makeMap Try.prog
  go_enter Try.func17, Try.ntmps17
  go_wp2
  go_ret
  refine ⟨w.heap.size + 1, w.heap.size, rfl, ⟨?_, ?_, by simp [OkT]⟩, by omega, by omega, ext_trans (ext_alloc _ _) (ext_alloc _ _)⟩
  · have := Blk.new (w.alloc (.map #[] 0)) 47 #[.map (some w.heap.size), .int .i64 0]
    simpa using this
  · refine ((MapF.made w Try.prog 9).alloc _).congr fun x => ?_
    cases x <;> rfl

set_option maxHeartbeats 1000000 in
theorem known_in {w : World} {g mb e : Nat} {T : Tails} (h : PackW w g mb T e) :
    Calls Try.prog 20 #[.pointer (some ⟨g, 0, none⟩)] w fun e' w' => e' = .returned (.int .i64 T.length) ∧ w = w' := by
  obtain ⟨c0, c1, cf⟩ := h.1.two
  have hl := h.2.1.len (P := Try.prog) (t := 45) Try.underlying45 3
  clear h
  go_enter Try.func20, Try.ntmps20
  go_wp2
  go_ret
  exact ⟨rfl, rfl⟩

theorem or_top (k : Nat) (h : k < 16384) : bits .or .i64 49152 (k : Int) = ((49152 + k : Nat) : Int) := by
  have h1 := i64_or_nat 49152 k (by omega) (by omega)
  have h2 : (49152 : Nat) ||| k = 49152 + k := by
    have := Nat.shiftLeft_add_eq_or_of_lt (b := k) (i := 14) h 3
    simpa using this.symm
  rw [h2] at h1
  exact h1
theorem put_ptr (k : Nat) (h : k < 16384) (w : World) : Calls Try.prog 29 #[.int .i64 ((49152 + k : Nat) : Int)] w fun e w' => ∃ A c, e = .returned (.tuple #[.slice A 2 c, .int .i64 0]) ∧ BK.Own w' w.heap.size 5 A c [UInt8.ofNat (192 + k / 256), UInt8.ofNat (k % 256)] ∧ Ext w w' := by
  have hb : be 2 (49152 + k) = [UInt8.ofNat (192 + k / 256), UInt8.ofNat (k % 256)] := by
    have e1 := be_get 2 (49152 + k) 0 (by decide)
    have e2 := be_get 2 (49152 + k) 1 (by decide)
    have e3 := be_length 2 (49152 + k)
    have e4 : (49152 + k) / 256 = 192 + k / 256 := by omega
    have e5 : UInt8.ofNat k = UInt8.ofNat (k % 256) := by
      rw [← UInt8.toNat_inj]; simp [UInt8.toNat_ofNat']
    simp at e1 e2
    rw [e4] at e1
    rw [e5] at e2
    generalize be 2 (49152 + k) = l at *
    rcases l with _ | ⟨a, _ | ⟨b, _ | _⟩⟩ <;> simp_all
  have := octet_Put16 ((49152 + k : Nat) : Int) w
  rw [putS_yes 2 (49152 + k) (by omega), hb] at this
  exact this

theorem hnF_len' {F : Tails} {x : Bs} (h : lookT F x = none) : (if (tabT F (.string x)).isSome = true then F.length else F.length + 1) = F.length + 1 := by
  rw [tabT_str, h]; rfl

/-- What Name answers, and what it knows then. -/
def packS (T : Tails) (e : Nat) (at_ : Int) (n : Bs) : Bs × Int × Tails × Nat :=
  if checkS n ≠ 0 then ([], checkS n, T, e) else if at_ < 0 ∨ 65535 < at_ then ([], 2, T, e) else if at_ < e then ([], 9, T, e)
  else ((packL T at_.toNat 0 (labelsS n).1).1, 0, T ++ (packL T at_.toNat 0 (labelsS n).1).2, at_.toNat + (packL T at_.toNat 0 (labelsS n).1).1.length)

set_option maxHeartbeats 2000000 in
set_option maxRecDepth 100000 in
theorem name_err {w : World} {g mb e : Nat} {T : Tails} (at_ : Int) (n : Bs) (E : Int) (h : PackW w g mb T e) (hn : n.length ≤ 100000) (hE : checkS n ≠ 0 ∧ E = checkS n ∨ checkS n = 0 ∧ (at_ < 0 ∨ 65535 < at_) ∧ E = 2 ∨ checkS n = 0 ∧ 0 ≤ at_ ∧ at_ ≤ 65535 ∧ at_ < e ∧ E = 9) :
    Calls Try.prog 19 #[.pointer (some ⟨g, 0, none⟩), .int .i64 at_, .string (str n)] w fun e' w' => e' = .returned (.tuple #[.slice none 0 0, .int .i64 E]) ∧ Ext w w' := by
  obtain ⟨c0, c1, cf⟩ := h.1.two
  have hq := run_eql_map_nil (P := Try.prog) w 45 _ _ (some mb) Try.underlying45
  have CC := hid (check_in n w (by omega))
  have H := hid h
  have HE := hid hE
  obtain ⟨cn, hcn⟩ : ∃ c, c = checkS n := ⟨_, rfl⟩
  rw [← hcn] at CC HE
  clear h hE hcn
  go_enter Try.func19, Try.ntmps19
  go_wp2_with fail
  refine CC.out.mono ?_
  rintro e' w1 ⟨rfl, x1⟩
  have X1 := hid x1
  obtain ⟨d0, d1, df⟩ := (H.out.1.ext x1).two
  clear x1 c0 c1 cf hq
  rcases HE.out with ⟨h1, hEE⟩ | ⟨rfl, h1, rfl⟩ | ⟨rfl, h1, h2, h3, rfl⟩
  · subst hEE
    have z1 : (E != 0) = true := by simpa using h1
    go_wp2_with fail
    go_ret2
    exact ⟨rfl, X1.out⟩
  · rcases h1 with h1 | h1
    · go_wp2_with fail
      go_ret2
      exact ⟨rfl, X1.out⟩
    · have h0 : ¬ at_ < 0 := by omega
      go_wp2_with fail
      go_ret2
      exact ⟨rfl, X1.out⟩
  · have z1 : decide (at_ < 0) = false := by simpa using h1
    have z2 : decide (65535 < at_) = false := by simpa using h2
    have z3 : decide (at_ < (e : Int)) = true := by simpa using h3
    go_wp2_with fail
    go_ret2
    exact ⟨rfl, X1.out⟩
end Go.Proofs.Ytfimfmghfjokjaa

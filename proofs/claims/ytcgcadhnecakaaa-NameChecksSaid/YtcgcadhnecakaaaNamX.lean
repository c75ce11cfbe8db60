/- The laws' own helpers: faulty, awake. -/
import Derived.Test.YtcgcadhnecakaaaParC
import Derived.Test.YtcgcadhnecakaaaNamC
namespace Go.Proofs.Ytcgcadhnecakaaa
open Go.BK Go.RowKit Go.BK.NM
set_option linter.unusedVariables false

theorem len_toList (a : ByteArray) : a.data.toList.length = a.size := by rw [Array.length_toList]; rfl
theorem within_wire {L Z : List Bs} (h1 : okL L) (h2 : okL Z) (l1 : (wire L).length ≤ 255) (l2 : (wire Z).length ≤ 255) : withinS (wire L) (wire Z) = withinL L Z := by
  have e1 := labels_ok (labS_wire h1) l1
  have e2 := labels_ok (labS_wire h2) l2
  rw [within_yes (by unfold checkS; rw [e1]) (by unfold checkS; rw [e2]), e1, e2]

set_option maxHeartbeats 2000000 in
theorem faulty_in (s : Bs) (e : Int) (q : Nat) (w : World) (hs : s.length ≤ 90000) (h : parseS s = ([], (e, q))) :
    Calls Try.prog 35 #[.string (str s), .int .i64 e, .int .i64 q] w fun x w' => x = .returned (.bool true) ∧ Ext w w' := by
  have C := hid (parse_in s w hs)
  rw [h] at C
  simp only at C
  obtain ⟨z, hz⟩ : ∃ z, z = str [] := ⟨_, rfl⟩
  have hz1 : (z.toList == []) = true := by rw [hz, str_toList]; rfl
  have hz2 : z.toList.isEmpty = true := by rw [hz, str_toList]; rfl
  rw [← hz] at C
  clear h hz
  go_enter Try.func35, Try.ntmps35
  go_wp2_with fail
  (with_reducible refine C.out.mono ?_)
  rintro x w1 ⟨rfl, x1⟩
  have X := hid x1
  clear x1
  go_wp2_with fail
  go_ret
  exact ⟨rfl, ext_trans X.out (ext_alloc _ _)⟩

theorem ex_one : parseS [119, 119, 119, 46, 69, 120, 97, 109, 112, 108, 101, 46] = ([3, 119, 119, 119, 7, 69, 120, 97, 109, 112, 108, 101, 0], (0, 0)) := by decide +kernel
theorem ex_two : parseS [119, 119, 119, 46, 69, 120, 97, 109, 112, 108, 101] = ([3, 119, 119, 119, 7, 69, 120, 97, 109, 112, 108, 101, 0], (0, 0)) := by decide +kernel
theorem ex_three : parseS [97, 46, 46, 98] = ([], (4, 2)) := by decide +kernel
theorem ex_four : withinS [1, 97, 1, 66, 0] [1, 98, 0] = true := by
  have h := within_wire (L := [[97], [66]]) (Z := [[98]]) (by intro s hs; simp at hs; rcases hs with rfl | rfl <;> simp) (by intro s hs; simp at hs; subst hs; simp) (by decide) (by decide)
  exact h.trans (by decide)

set_option maxHeartbeats 2000000 in
theorem awake_in (w : World) : Calls Try.prog 21 #[] w fun x w' => x = .returned (.bool true) ∧ Ext w w' := by
  obtain ⟨z, hz⟩ : ∃ z, z = str [3, 119, 119, 119, 7, 69, 120, 97, 109, 112, 108, 101, 0] := ⟨_, rfl⟩
  have hz1 : (z.toList == [3, 119, 119, 119, 7, 69, 120, 97, 109, 112, 108, 101, 0]) = true := by rw [hz, str_toList]; rfl
  have hz2 : (z.toList == z.toList) = true := by simp
  have C1 := hid (fun W => show Calls Try.prog 34 #[.string ⟨#[119, 119, 119, 46, 69, 120, 97, 109, 112, 108, 101, 46]⟩] W fun e w' => e = .returned (.tuple #[.string z, .agg #[.int .i64 0, .int .i64 0]]) ∧ Ext W w' from by
    have := parse_in [119, 119, 119, 46, 69, 120, 97, 109, 112, 108, 101, 46] W (by decide)
    rw [ex_one] at this
    rw [hz]; exact this)
  have C2 := hid (fun W => show Calls Try.prog 34 #[.string ⟨#[119, 119, 119, 46, 69, 120, 97, 109, 112, 108, 101]⟩] W fun e w' => e = .returned (.tuple #[.string z, .agg #[.int .i64 0, .int .i64 0]]) ∧ Ext W w' from by
    have := parse_in [119, 119, 119, 46, 69, 120, 97, 109, 112, 108, 101] W (by decide)
    rw [ex_two] at this
    rw [hz]; exact this)
  have C3 := hid (fun W => show Calls Try.prog 35 #[.string ⟨#[97, 46, 46, 98]⟩, .int .i64 4, .int .i64 2] W fun e w' => e = .returned (.bool true) ∧ Ext W w' from faulty_in [97, 46, 46, 98] 4 2 W (by decide) ex_three)
  have C4 := hid (fun W => show Calls Try.prog 23 #[.string ⟨#[1, 97, 1, 66, 0]⟩, .string ⟨#[1, 98, 0]⟩] W fun e w' => e = .returned (.bool true) ∧ Ext W w' from by
    have := within_in [1, 97, 1, 66, 0] [1, 98, 0] W (by decide) (by decide)
    rw [ex_four] at this
    exact this)
  clear hz
  go_enter Try.func21, Try.ntmps21
  go_wp2_with fail
  (with_reducible refine (C1.out _).mono ?_)
  rintro x w1 ⟨rfl, x1⟩
  have X1 := hid x1
  clear x1
  go_wp2_with fail
  (with_reducible refine (C2.out _).mono ?_)
  rintro x w2 ⟨rfl, x2⟩
  have X2 := hid x2
  have k1 : Blk w2 w1.heap.size 45 #[.int .i64 0, .int .i64 0] := (Blk.new w1 _ _).ext x2
  have c1 : ∀ o, (w2.alloc o).cell? ⟨w1.heap.size, 0, none⟩ = some (.int .i64 0) := fun o => (k1.alloc o).cell 0
  clear x2 k1
  go_wp2_with fail
  (with_reducible refine (C3.out _).mono ?_)
  rintro x w3 ⟨rfl, x3⟩
  have X3 := hid x3
  clear x3 c1
  go_wp2_with fail
  (with_reducible refine (C4.out _).mono ?_)
  rintro x w4 ⟨rfl, x4⟩
  have X4 := hid x4
  clear x4
  go_wp2_with fail
  go_ret
  refine ⟨rfl, ?_⟩
  exact ext_trans X1.out (ext_trans (ext_alloc _ _) (ext_trans X2.out (ext_trans (ext_alloc _ _) (ext_trans X3.out X4.out))))
end Go.Proofs.Ytcgcadhnecakaaa

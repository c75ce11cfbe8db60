/- The law NameKnown: the walk. -/
import Derived.Test.YtcgcadhnecakaaaNamX
import Derived.Test.YtcgcadhnecakaaaNamY
import Derived.Test.YtcgcadhnecakaaaNamR
namespace Go.Proofs.Ytcgcadhnecakaaa
open Go.BK Go.RowKit Go.BK.NM
set_option linter.unusedVariables false

theorem labels_wire {L : List Bs} (h : okL L) (l : (wire L).length ≤ 255) : labelsS (wire L) = (L, 0) := labels_ok (labS_wire h) l
theorem okL_check {L : List Bs} (h : L.all (fun s => decide (1 ≤ s.length) && decide (s.length ≤ 63)) = true) : okL L := by
  intro s hs
  have := List.all_eq_true.1 h s hs
  simpa using this
theorem n_dot : labelsS [1, 46, 0] = ([[46]], 0) := labels_wire (L := [[46]]) (okL_check (by decide)) (by decide)
theorem n_a7 : labelsS [2, 97, 7, 0] = ([[97, 7]], 0) := labels_wire (L := [[97, 7]]) (okL_check (by decide)) (by decide)
theorem n_ab : labelsS [2, 97, 98, 0] = ([[97, 98]], 0) := labels_wire (L := [[97, 98]]) (okL_check (by decide)) (by decide)
theorem n_b : labelsS [1, 98, 0] = ([[98]], 0) := labels_wire (L := [[98]]) (okL_check (by decide)) (by decide)
theorem n_a_b : labelsS [1, 97, 1, 98, 0] = ([[97], [98]], 0) := labels_wire (L := [[97], [98]]) (okL_check (by decide)) (by decide)
theorem n_z_a : labelsS [1, 122, 1, 97, 0] = ([[122], [97]], 0) := labels_wire (L := [[122], [97]]) (okL_check (by decide)) (by decide)
theorem n_A : labelsS [1, 65, 0] = ([[65]], 0) := labels_wire (L := [[65]]) (okL_check (by decide)) (by decide)
theorem n_a : labelsS [1, 97, 0] = ([[97]], 0) := labels_wire (L := [[97]]) (okL_check (by decide)) (by decide)
theorem kn_text1 : textS [1, 46, 0] = ([92, 46, 46], 0) := by unfold textS; rw [n_dot]; decide
theorem kn_text2 : textS [2, 97, 7, 0] = ([97, 92, 48, 48, 55, 46], 0) := by unfold textS; rw [n_a7]; decide
theorem kn_par1 : parentS [1, 97, 1, 98, 0] = ([1, 98, 0], true) := by rw [parent_some n_a_b]; rfl
theorem kn_par2 : parentS [0] = ([], false) := parent_none (by rw [root_labels])
theorem kn_parse0 : parseS [46] = ([0], (0, 0)) := by decide +kernel
theorem kn_parse1 : parseS [92, 97, 92, 48, 49, 48, 46] = ([2, 97, 10, 0], (0, 0)) := by decide +kernel
theorem kn_fault0 : parseS [97, 92] = ([], (4, 1)) := by decide +kernel
theorem kn_fault1 : parseS [97, 92, 50, 53] = ([], (4, 1)) := by decide +kernel
theorem kn_fault2 : parseS [92, 50, 53, 54] = ([], (5, 0)) := by decide +kernel
theorem kn_fault3 : parseS [] = ([], (4, 0)) := by decide +kernel
theorem kn_within0 : withinS [2, 97, 98, 0] [1, 98, 0] = false := (within_of n_ab n_b).trans (by decide)
theorem kn_within1 : withinS [1, 98, 0] [1, 98, 0] = true := (within_of n_b n_b).trans (by decide)
theorem kn_within2 : withinS [1, 98, 0] [1, 97, 1, 98, 0] = false := (within_of n_b n_a_b).trans (by decide)
theorem kn_compare0 : compareS [1, 97, 1, 98, 0] [1, 98, 0] = 1 := (compare_of n_a_b n_b).trans (by decide)
theorem kn_compare1 : compareS [1, 122, 1, 97, 0] [1, 97, 1, 98, 0] = -1 := (compare_of n_z_a n_a_b).trans (by decide)
theorem kn_compare2 : compareS [1, 65, 0] [1, 97, 0] = 0 := (compare_of n_A n_a).trans (by decide)

set_option maxHeartbeats 8000000 in
set_option maxRecDepth 100000 in
theorem known_walk (w : World) : Calls Try.prog 8 #[] w fun e w' => e = .returned (.bool true) ∧ Below w.heap.size w w' := by
  obtain ⟨z0, hz0⟩ : ∃ z, z = str [0] := ⟨_, rfl⟩
  have kz0 : (z0.toList == [0]) = true := by rw [hz0, str_toList]; rfl
  obtain ⟨z1, hz1⟩ : ∃ z, z = str [2, 97, 10, 0] := ⟨_, rfl⟩
  have kz1 : (z1.toList == [2, 97, 10, 0]) = true := by rw [hz1, str_toList]; rfl
  obtain ⟨z2, hz2⟩ : ∃ z, z = str [92, 46, 46] := ⟨_, rfl⟩
  have kz2 : (z2.toList == [92, 46, 46]) = true := by rw [hz2, str_toList]; rfl
  obtain ⟨z3, hz3⟩ : ∃ z, z = str [97, 92, 48, 48, 55, 46] := ⟨_, rfl⟩
  have kz3 : (z3.toList == [97, 92, 48, 48, 55, 46]) = true := by rw [hz3, str_toList]; rfl
  obtain ⟨z4, hz4⟩ : ∃ z, z = str [1, 98, 0] := ⟨_, rfl⟩
  have kz4 : (z4.toList == [1, 98, 0]) = true := by rw [hz4, str_toList]; rfl
  obtain ⟨z5, hz5⟩ : ∃ z, z = str [] := ⟨_, rfl⟩
  have kz5 : (z5.toList == []) = true := by rw [hz5, str_toList]; rfl
  have P0 := hid (fun W => show Calls Try.prog 34 #[.string ⟨#[46]⟩] W fun e w' => e = .returned (.tuple #[.string z0, .agg #[.int .i64 0, .int .i64 0]]) ∧ Ext W w' from by
    have := parse_in [46] W (by decide); rw [kn_parse0] at this; rw [hz0]; exact this)
  have P1 := hid (fun W => show Calls Try.prog 34 #[.string ⟨#[92, 97, 92, 48, 49, 48, 46]⟩] W fun e w' => e = .returned (.tuple #[.string z1, .agg #[.int .i64 0, .int .i64 0]]) ∧ Ext W w' from by
    have := parse_in [92, 97, 92, 48, 49, 48, 46] W (by decide); rw [kn_parse1] at this; rw [hz1]; exact this)
  have F0 := hid (fun W => show Calls Try.prog 35 #[.string ⟨#[97, 92]⟩, .int .i64 4, .int .i64 1] W fun e w' => e = .returned (.bool true) ∧ Ext W w' from by
    exact faulty_in [97, 92] 4 1 W (by decide) kn_fault0)
  have F1 := hid (fun W => show Calls Try.prog 35 #[.string ⟨#[97, 92, 50, 53]⟩, .int .i64 4, .int .i64 1] W fun e w' => e = .returned (.bool true) ∧ Ext W w' from by
    exact faulty_in [97, 92, 50, 53] 4 1 W (by decide) kn_fault1)
  have F2 := hid (fun W => show Calls Try.prog 35 #[.string ⟨#[92, 50, 53, 54]⟩, .int .i64 5, .int .i64 0] W fun e w' => e = .returned (.bool true) ∧ Ext W w' from by
    exact faulty_in [92, 50, 53, 54] 5 0 W (by decide) kn_fault2)
  have F3 := hid (fun W => show Calls Try.prog 35 #[.string ⟨#[]⟩, .int .i64 4, .int .i64 0] W fun e w' => e = .returned (.bool true) ∧ Ext W w' from by
    exact faulty_in [] 4 0 W (by decide) kn_fault3)
  have T0 := hid (fun W => show Calls Try.prog 33 #[.string ⟨#[1, 46, 0]⟩] W fun e w' => e = .returned (.tuple #[.string z2, .int .i64 0]) ∧ Ext W w' from by
    have := text_in [1, 46, 0] W (by decide); rw [kn_text1] at this; rw [hz2]; exact this)
  have T1 := hid (fun W => show Calls Try.prog 33 #[.string ⟨#[2, 97, 7, 0]⟩] W fun e w' => e = .returned (.tuple #[.string z3, .int .i64 0]) ∧ Ext W w' from by
    have := text_in [2, 97, 7, 0] W (by decide); rw [kn_text2] at this; rw [hz3]; exact this)
  have W0 := hid (fun W => show Calls Try.prog 23 #[.string ⟨#[2, 97, 98, 0]⟩, .string ⟨#[1, 98, 0]⟩] W fun e w' => e = .returned (.bool false) ∧ Ext W w' from by
    have := within_in [2, 97, 98, 0] [1, 98, 0] W (by decide) (by decide); rw [kn_within0] at this; exact this)
  have W1 := hid (fun W => show Calls Try.prog 23 #[.string ⟨#[1, 98, 0]⟩, .string ⟨#[1, 98, 0]⟩] W fun e w' => e = .returned (.bool true) ∧ Ext W w' from by
    have := within_in [1, 98, 0] [1, 98, 0] W (by decide) (by decide); rw [kn_within1] at this; exact this)
  have W2 := hid (fun W => show Calls Try.prog 23 #[.string ⟨#[1, 98, 0]⟩, .string ⟨#[1, 97, 1, 98, 0]⟩] W fun e w' => e = .returned (.bool false) ∧ Ext W w' from by
    have := within_in [1, 98, 0] [1, 97, 1, 98, 0] W (by decide) (by decide); rw [kn_within2] at this; exact this)
  have C0 := hid (fun W => show Calls Try.prog 31 #[.string ⟨#[1, 97, 1, 98, 0]⟩, .string ⟨#[1, 98, 0]⟩] W fun e w' => e = .returned (.int .i64 (1)) ∧ Ext W w' from by
    have := compare_in [1, 97, 1, 98, 0] [1, 98, 0] W (by decide) (by decide); rw [kn_compare0] at this; exact this)
  have C1 := hid (fun W => show Calls Try.prog 31 #[.string ⟨#[1, 122, 1, 97, 0]⟩, .string ⟨#[1, 97, 1, 98, 0]⟩] W fun e w' => e = .returned (.int .i64 (-1)) ∧ Ext W w' from by
    have := compare_in [1, 122, 1, 97, 0] [1, 97, 1, 98, 0] W (by decide) (by decide); rw [kn_compare1] at this; exact this)
  have C2 := hid (fun W => show Calls Try.prog 31 #[.string ⟨#[1, 65, 0]⟩, .string ⟨#[1, 97, 0]⟩] W fun e w' => e = .returned (.int .i64 (0)) ∧ Ext W w' from by
    have := compare_in [1, 65, 0] [1, 97, 0] W (by decide) (by decide); rw [kn_compare2] at this; exact this)
  have Q0 := hid (fun W => show Calls Try.prog 24 #[.string ⟨#[1, 97, 1, 98, 0]⟩] W fun e w' => e = .returned (.tuple #[.string z4, .bool true]) ∧ Ext W w' from by
    have := parent_in [1, 97, 1, 98, 0] W (by decide); rw [kn_par1] at this; rw [hz4]; exact this)
  have Q1 := hid (fun W => show Calls Try.prog 24 #[.string ⟨#[0]⟩] W fun e w' => e = .returned (.tuple #[.string z5, .bool false]) ∧ Ext W w' from by
    have := parent_in [0] W (by decide); rw [kn_par2] at this; rw [hz5]; exact this)
  clear hz0 hz1 hz2 hz3 hz4 hz5
  go_enter Try.func8, Try.ntmps8
  have X := hid (ext_refl w)
  go_wp2_with fail
  (with_reducible refine (P0.out _).mono ?_)
  rintro e w2 ⟨rfl, x⟩
  have X := hid (ext_trans (ext_trans X.out x) (ext_alloc w2 (.cells #[.int .i64 0, .int .i64 0] 45)))
  clear x
  go_wp2_with fail
  (with_reducible refine (F0.out _).mono ?_)
  rintro e w2 ⟨rfl, x⟩
  have X := hid (ext_trans X.out x)
  clear x
  go_wp2_with fail
  (with_reducible refine (F1.out _).mono ?_)
  rintro e w2 ⟨rfl, x⟩
  have X := hid (ext_trans X.out x)
  clear x
  go_wp2_with fail
  (with_reducible refine (F2.out _).mono ?_)
  rintro e w2 ⟨rfl, x⟩
  have X := hid (ext_trans X.out x)
  clear x
  go_wp2_with fail
  (with_reducible refine (F3.out _).mono ?_)
  rintro e w2 ⟨rfl, x⟩
  have X := hid (ext_trans X.out x)
  clear x
  go_wp2_with fail
  (with_reducible refine (T0.out _).mono ?_)
  rintro e w2 ⟨rfl, x⟩
  have X := hid (ext_trans X.out x)
  clear x
  go_wp2_with fail
  (with_reducible refine (T1.out _).mono ?_)
  rintro e w2 ⟨rfl, x⟩
  have X := hid (ext_trans X.out x)
  clear x
  go_wp2_with fail
  (with_reducible refine (P1.out _).mono ?_)
  rintro e w2 ⟨rfl, x⟩
  have X := hid (ext_trans (ext_trans X.out x) (ext_alloc w2 (.cells #[.int .i64 0, .int .i64 0] 45)))
  clear x
  go_wp2_with fail
  (with_reducible refine (W0.out _).mono ?_)
  rintro e w2 ⟨rfl, x⟩
  have X := hid (ext_trans X.out x)
  clear x
  go_wp2_with fail
  (with_reducible refine (W1.out _).mono ?_)
  rintro e w2 ⟨rfl, x⟩
  have X := hid (ext_trans X.out x)
  clear x
  go_wp2_with fail
  (with_reducible refine (W2.out _).mono ?_)
  rintro e w2 ⟨rfl, x⟩
  have X := hid (ext_trans X.out x)
  clear x
  go_wp2_with fail
  (with_reducible refine (Q0.out _).mono ?_)
  rintro e w2 ⟨rfl, x⟩
  have X := hid (ext_trans X.out x)
  clear x
  go_wp2_with fail
  (with_reducible refine (Q1.out _).mono ?_)
  rintro e w2 ⟨rfl, x⟩
  have X := hid (ext_trans X.out x)
  clear x
  go_wp2_with fail
  (with_reducible refine (awake_in _).mono ?_)
  rintro e w2 ⟨rfl, x⟩
  have X := hid (ext_trans X.out x)
  clear x
  go_wp2_with fail
  (with_reducible refine (C0.out _).mono ?_)
  rintro e w2 ⟨rfl, x⟩
  have X := hid (ext_trans X.out x)
  clear x
  go_wp2_with fail
  (with_reducible refine (C1.out _).mono ?_)
  rintro e w2 ⟨rfl, x⟩
  have X := hid (ext_trans X.out x)
  clear x
  go_wp2_with fail
  (with_reducible refine (C2.out _).mono ?_)
  rintro e w2 ⟨rfl, x⟩
  have X := hid (ext_trans X.out x)
  clear x
  go_wp2_with fail
  go_ret
  exact ⟨rfl, X.out⟩
end Go.Proofs.Ytcgcadhnecakaaa

/- Layer 29: ScriptKnown's walk. -/
import Derived.Test.YtholjbnggnfapaaScrK
import Derived.Test.YtholjbnggnfapaaScrH
namespace Go.Proofs.Ytholjbnggnfapaa
open Go.BK Go.BK.SC Go.RowKit Go.Maps
set_option linter.unusedVariables false
set_option linter.unusedSimpArgs false
theorem wf_lit {k s wh p co n : Int} {b : List UInt8} (h1 : 0 ≤ k ∧ k ≤ 100000) (h2 : 0 ≤ s ∧ s ≤ 100000) (h3 : 0 ≤ wh ∧ wh ≤ 100000) (h4 : 0 ≤ p ∧ p ≤ 100000) (h5 : 0 ≤ co ∧ co ≤ 100000) (h6 : 0 ≤ n ∧ n ≤ 100000) : WfE ⟨k, s, wh, p, co, n, b⟩ := by
  constructor <;> (show _ ∧ _) <;> (dsimp only; constructor <;> omega)
/-- Bytes of one event that is laid just now. -/
theorem bytes_one (w : World) (k s wh p co n : Int) (hw : WfE ⟨k, s, wh, p, co, n, []⟩) (q : List UInt8) (err : Int) (hq : bytesS [⟨k, s, wh, p, co, n, []⟩] = (q, err)) :
    Calls Try.prog 17 #[.slice (some ⟨w.heap.size, 0, none⟩) 1 1] (w.alloc (.cells #[.int .i64 k, .int .i64 s, .int .i64 wh, .int .i64 p, .int .i64 co, .int .i64 n, .slice none 0 0] 34)) fun r w' => ∃ O co, r = .returned (.tuple #[.slice O q.length co, .int .i64 err]) ∧ Rd w' O co q ∧ Ext w w' := by
  have h1 := evr_one w ⟨k, s, wh, p, co, n, []⟩ none 0 (RdG.none_ _ _)
  have h2 := bytes_in h1 (by intro m hm; rw [List.mem_singleton] at hm; subst hm; exact hw)
  have xa := ext_alloc w (.cells #[.int .i64 k, .int .i64 s, .int .i64 wh, .int .i64 p, .int .i64 co, .int .i64 n, .slice none 0 0] 34)
  refine Calls.mono h2 ?_
  intro r w' hr
  have h3 : BytD _ w' [⟨k, s, wh, p, co, n, []⟩] r := hr
  rw [BytD_eq hq] at h3
  obtain ⟨O, c, rfl, o, x⟩ := h3
  exact ⟨O, c, rfl, OwnG.rd o, ext_trans xa x⟩
theorem is_four (w : World) : Calls Try.prog 19 #[.slice (some ⟨w.heap.size, 0, none⟩) 7 7, .agg #[.int .i64 3, .int .i64 0, .int .i64 0, .int .i64 0, .int .i64 1, .int .i64 0, .slice (some ⟨w.heap.size + 1, 0, none⟩) 2 2]]
    ((w.alloc (.cells #[.int .u8 2, .int .u8 0, .int .u8 1, .int .u8 0, .int .u8 2, .int .u8 8, .int .u8 9] 5)).alloc (.cells #[.int .u8 8, .int .u8 9] 5)) fun r w' => r = .returned (.bool true) ∧ Ext w w' := by
  have h1 := lit_rd w [2, 0, 1, 0, 2, 8, 9] (by decide)
  obtain ⟨w1, hw1⟩ : ∃ w1, w.alloc (.cells (([2, 0, 1, 0, 2, 8, 9] : List UInt8).map u8v).toArray 5) = w1 := ⟨_, rfl⟩
  have hs : w1.heap.size = w.heap.size + 1 := by rw [← hw1]; simp
  have xa := ext_alloc w (.cells (([2, 0, 1, 0, 2, 8, 9] : List UInt8).map u8v).toArray 5)
  rw [hw1] at h1 xa
  have h2 := lit_rd w1 [8, 9] (by decide)
  have xb := ext_alloc w1 (.cells (([8, 9] : List UInt8).map u8v).toArray 5)
  have h := is_in (e := ⟨3, 0, 0, 0, 1, 0, [8, 9]⟩) (RdG.ext h1 xb) (by decide +kernel) h2
  have hw2 : w.alloc (.cells #[.int .u8 2, .int .u8 0, .int .u8 1, .int .u8 0, .int .u8 2, .int .u8 8, .int .u8 9] 5) = w1 := hw1
  rw [hw2, ← hs]
  refine Calls.mono h ?_
  rintro r w' ⟨rfl, x⟩
  exact ⟨rfl, ext_trans xa (ext_trans xb x)⟩
set_option maxHeartbeats 4000000 in
set_option maxRecDepth 100000 in
theorem known_walk (w : World) : Calls Try.prog 6 #[] w fun r w' => r = .returned (.bool true) ∧ Below w.heap.size w w' := by
  have C1 := hid (fun w => is_in (d := 0) (B := none) (e := ⟨10, 0, 0, 0, 0, 0, []⟩) (lit_rd w [9] (by decide)) (by decide +kernel) (RdG.none_ _ _))
  have X1 := hid (fun w => ext_alloc w (.cells (([9] : List UInt8).map u8v).toArray 5))
  have C2 := hid (fun w => events_in (b := []) (A := none) (c := 0) (RdG.none_ w 1))
  have C3 := hid (fun w => is_in (d := 0) (B := none) (e := ⟨4, 0, 0, 0, 0, 0, []⟩) (lit_rd w [13] (by decide)) (by decide +kernel) (RdG.none_ _ _))
  have X3 := hid (fun w => ext_alloc w (.cells (([13] : List UInt8).map u8v).toArray 5))
  have X4 := hid (fun w => ext_alloc w (.cells (([2, 0, 1, 0, 2, 8, 9] : List UInt8).map u8v).toArray 5))
  have X5 := hid (fun w => ext_alloc w (.cells (([8, 9] : List UInt8).map u8v).toArray 5))
  have C4 := hid (fun w => is_four w)
  have D1 := hid (fun w => bytes_one w 6 0 0 0 0 3 (wf_lit (by omega) (by omega) (by omega) (by omega) (by omega) (by omega)) [5, 0, 3] 0 (by decide +kernel))
  have D2 := hid (fun w => bytes_one w 6 0 0 0 0 65536 (wf_lit (by omega) (by omega) (by omega) (by omega) (by omega) (by omega)) [] 2 (by decide +kernel))
  have D3 := hid (fun w => bytes_one w 10 0 0 0 0 1 (wf_lit (by omega) (by omega) (by omega) (by omega) (by omega) (by omega)) [] 2 (by decide +kernel))
  have SB := hid (fun (w : World) (O : Option Addr) (c : Nat) (h : Rd w O c [5, 0, 3]) => same_yes (RdG.ext h (ext_alloc w (.cells (([5, 0, 3] : List UInt8).map u8v).toArray 5))) (lit_rd w [5, 0, 3] (by decide)) rfl)
  have X6 := hid (fun w => ext_alloc w (.cells (([5, 0, 3] : List UInt8).map u8v).toArray 5))
  go_enter Try.func6, Try.ntmps6
  go_wp2_with fail
  refine (C1.out w).mono ?_
  rintro r w2 ⟨rfl, x2⟩
  have E2 := hid (ext_trans (X1.out _) x2)
  clear x2
  go_wp2_with fail
  refine (C2.out w2).mono ?_
  rintro r w3 ⟨A3, c3, M3, rfl, _, m3, x3⟩
  obtain rfl : M3 = [] := by simpa [eventsS] using m3
  have E3 := hid (ext_trans E2.out x3)
  clear x3 m3
  simp only [List.length_nil]
  go_wp2_with fail
  refine (C3.out w3).mono ?_
  rintro r w4 ⟨rfl, x4⟩
  have E4 := hid (ext_trans E3.out (ext_trans (X3.out _) x4))
  clear x4
  go_wp2_with fail
  refine (C4.out w4).mono ?_
  rintro r w5 ⟨rfl, x5⟩
  have E5 := hid (ext_trans E4.out x5)
  clear x5
  go_wp2_with fail
  refine (D1.out w5).mono ?_
  rintro r w6 ⟨O6, c6, rfl, r6, x6⟩
  have E6 := hid (ext_trans E5.out x6)
  have R6 := hid r6
  clear x6 r6
  go_wp2_with fail
  refine (D2.out w6).mono ?_
  rintro r w7 ⟨O7, c7, rfl, _, x7⟩
  have E7 := hid (ext_trans E6.out x7)
  have R7 := hid (RdG.ext R6.out x7)
  clear x7
  go_wp2_with fail
  refine (D3.out w7).mono ?_
  rintro r w8 ⟨O8, c8, rfl, _, x8⟩
  have E8 := hid (ext_trans E7.out x8)
  have R8 := hid (RdG.ext R7.out x8)
  clear x8
  go_wp2_with fail
  refine (awake_in w8).mono ?_
  rintro r w9 ⟨rfl, x9⟩
  have E9 := hid (ext_trans E8.out x9)
  have R9 := hid (RdG.ext R8.out x9)
  clear x9
  go_wp2_with fail
  refine (SB.out w9 _ _ R9.out).mono ?_
  rintro r w10 ⟨rfl, rfl⟩
  go_wp2_with fail
  go_ret
  exact ⟨rfl, ext_trans E9.out (X6.out _)⟩
end Go.Proofs.Ytholjbnggnfapaa

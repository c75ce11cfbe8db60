/- DrrKnown: the chapter's examples. -/
import Derived.Test.YtkogagpahidenaaDrrH
namespace Go.Proofs.Ytkogagpahidenaa
open Go.BK Go.BK.DR Go.RowKit Go.Maps
set_option linter.unusedVariables false
def kn1 : St := (putS p4 ⟨[], false⟩ 1 11 0).1
theorem kn1_e : (putS p4 ⟨[], false⟩ 1 11 0).2 = 5 := by decide +kernel
def kn2 : St := (putS p4 kn1 9 1 5).1
theorem kn2_e : (putS p4 kn1 9 1 5).2 = 0 := by decide +kernel
theorem kn2_c : clientsS kn2 = [9] := by decide +kernel
def kn3 : St := (dropS kn2 9).1
theorem kn3_e : (dropS kn2 9).2 = [5] := by decide +kernel
theorem kn3_l : lenS kn3 = 0 := by decide +kernel
theorem not_ok6 : ¬ (⟨1, 1, 5, 6⟩ : Par).ok := by unfold Par.ok; decide
theorem rd_one (w : World) (a : Int) : RdG (w.alloc (.cells #[.int .i64 a] 3)) 1 (some ⟨w.heap.size, 0, none⟩) [a].length 1 (intsV [a]) := RdG.single w (.int .i64 a) 3
set_option maxHeartbeats 4000000 in
set_option maxRecDepth 100000 in
theorem known_yes (w : World) : Calls Try.prog 5 #[] w fun e w' => e = .returned (.bool true) ∧ Below w.heap.size w w' := by
  go_enter Try.func5, Try.ntmps5
  go_wp2_with fail
  refine (four_yes w).mono ?_
  rintro e w0 ⟨g, rfl, hq, hx⟩
  have Q0 : Hid (QB w.heap.size w w0 g p4 ⟨[], false⟩) := hid ⟨hq, hx, hx.size⟩
  clear hq hx
  go_wp2_with fail
  refine (new_no 1 1 5 6 w0 not_ok6).mono ?_
  rintro e _ ⟨rfl, rfl⟩
  go_wp2_with fail
  have C := qb_put Q0.out 1 11 0 (wf_small _ (by decide))
  rw [kn1_e] at C
  have C := hid C
  refine C.out.mono ?_
  rintro e w1 ⟨rfl, hq⟩
  have Q1 : Hid (QB w.heap.size w w1 g p4 kn1) := hid hq
  clear hq C
  go_wp2_with fail
  have C := qb_put Q1.out 9 1 5 (wf_small _ (by decide))
  rw [kn2_e] at C
  have C := hid C
  refine C.out.mono ?_
  rintro e w2 ⟨rfl, hq⟩
  have Q2 : Hid (QB w.heap.size w w2 g p4 kn2) := hid hq
  clear hq C
  go_wp2_with fail
  have C := q_clients Q2.out.1
  rw [kn2_c] at C
  have C := hid C
  refine C.out.mono ?_
  rintro e w3 ⟨A, c, rfl, o3, x3⟩
  have xa := ext_alloc w3 (.cells #[.int .i64 9] 3)
  have S := same_ints (o3.rd.ext xa) (rd_one w3 9)
  simp only [List.length_cons, List.length_nil, Nat.zero_add] at S
  have S := hid S
  have Q3 : Hid (QB w.heap.size w (w3.alloc (.cells #[.int .i64 9] 3)) g p4 kn2) := hid (Q2.out.ext (ext_trans x3 xa))
  clear C o3 x3 xa
  simp only [List.length_cons, List.length_nil, Nat.zero_add]
  go_wp2_with fail
  refine S.out.mono ?_
  rintro e w4 ⟨rfl, nq, rfl⟩
  simp only [decide_true]
  have Q4 : Hid (QB w.heap.size w ((w3.alloc (.cells #[.int .i64 9] 3)).drewN nq) g p4 kn2) := hid (Q3.out.ext (ext_drewN _ _))
  generalize (w3.alloc (.cells #[.int .i64 9] 3)).drewN nq = w5 at Q4 ⊢
  clear S Q3
  go_wp2_with fail
  refine (awake_yes w5).mono ?_
  rintro e w6 ⟨rfl, x6⟩
  have Q6 : Hid (QB w.heap.size w w6 g p4 kn2) := hid (Q4.out.ext x6)
  clear x6
  go_wp2_with fail
  have C := q_drop Q6.out.1 9 (wf_small _ (by decide))
  rw [kn3_e] at C
  have C := hid C
  refine C.out.mono ?_
  rintro e w7 ⟨A7, c7, rfl, o7, hq, hs⟩
  have xb := ext_alloc w7 (.cells #[.int .i64 5] 3)
  have S := same_ints (o7.rd.ext xb) (rd_one w7 5)
  simp only [List.length_cons, List.length_nil, Nat.zero_add] at S
  have S := hid S
  have Q7 : Hid (QB w.heap.size w (w7.alloc (.cells #[.int .i64 5] 3)) g p4 kn3) := hid ((Q6.out.step hq hs).ext xb)
  clear C o7 xb hq hs
  simp only [List.length_cons, List.length_nil, Nat.zero_add]
  go_wp2_with fail
  refine S.out.mono ?_
  rintro e w8 ⟨rfl, nq, rfl⟩
  simp only [decide_true]
  have Q8 : Hid (QB w.heap.size w ((w7.alloc (.cells #[.int .i64 5] 3)).drewN nq) g p4 kn3) := hid (Q7.out.ext (ext_drewN _ _))
  generalize (w7.alloc (.cells #[.int .i64 5] 3)).drewN nq = w9 at Q8 ⊢
  clear S Q7
  go_wp2_with fail
  have C := q_len Q8.out.1
  rw [kn3_l] at C
  have C := hid C
  refine C.out.mono ?_
  rintro e _ ⟨rfl, rfl⟩
  go_wp2_with fail
  go_ret
  exact ⟨rfl, Q8.out.2.1⟩
end Go.Proofs.Ytkogagpahidenaa

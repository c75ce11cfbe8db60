/- name.Check, name.Count. -/
import Derived.Test.YtcgcadhnecakaaaLabB
namespace Go.Proofs.Ytcgcadhnecakaaa
open Go.BK Go.RowKit Go.BK.NM
set_option linter.unusedVariables false

set_option maxHeartbeats 1000000 in
theorem check_in (n : Bs) (w : World) (hn : n.length ≤ 2000000) :
    Calls Try.prog 16 #[.string (str n)] w fun e w' => e = .returned (.int .i64 (checkS n)) ∧ Ext w w' := by
  have C := hid (labels_in n w hn)
  unfold checkS
  generalize labelsS n = R at *
  go_enter Try.func16, Try.ntmps16
  go_wp2_with fail
  refine C.out.mono ?_
  rintro e w1 ⟨A, c, rfl, ho, x⟩
  go_wp2_with fail
  go_ret
  exact ⟨rfl, x⟩
set_option maxHeartbeats 1000000 in
theorem count_in (n : Bs) (w : World) (hn : n.length ≤ 2000000) :
    Calls Try.prog 18 #[.string (str n)] w fun e w' => e = .returned (.int .i64 (labelsS n).1.length) ∧ Ext w w' := by
  have C := hid (labels_in n w hn)
  generalize labelsS n = R at *
  go_enter Try.func18, Try.ntmps18
  go_wp2_with fail
  refine C.out.mono ?_
  rintro e w1 ⟨A, c, rfl, ho, x⟩
  go_wp2_with fail
  go_ret
  exact ⟨rfl, x⟩
end Go.Proofs.Ytcgcadhnecakaaa

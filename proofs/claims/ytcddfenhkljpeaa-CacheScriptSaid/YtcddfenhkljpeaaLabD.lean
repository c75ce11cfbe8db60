import Derived.Test.YtcddfenhkljpeaaLabB
/- name.Check. -/
namespace Go.Proofs.Ytcddfenhkljpeaa
open Go.BK Go.RowKit Go.BK.NM
set_option linter.unusedVariables false

set_option maxHeartbeats 1000000 in
theorem check_in (n : Bs) (w : World) (hn : n.length ≤ 2000000) :
    Calls Try.prog 42 #[.string (str n)] w fun e w' => e = .returned (.int .i64 (checkS n)) ∧ Ext w w' := by
  have C := hid (labels_in n w hn)
  unfold checkS
  generalize labelsS n = R at *
  go_enter Try.func42, Try.ntmps42
  go_wp2_with fail
  refine C.out.mono ?_
  rintro e w1 ⟨A, c, rfl, ho, x⟩
  go_wp2_with fail
  go_ret
  exact ⟨rfl, x⟩
end Go.Proofs.Ytcddfenhkljpeaa

/- Layer 29: the document's Same, Check, Bytes. -/
import Derived.Test.YtholjbnggnfapaaRscF
import Derived.Test.YtholjbnggnfapaaRscC
namespace Go.Proofs.Ytholjbnggnfapaa
open Go.BK Go.BK.SC Go.RowKit Go.Maps
set_option linter.unusedVariables false
set_option linter.unusedSimpArgs false
section
variable {w w' : World} {c c2 d d2 : Nat} {A B B2 : Option Addr} {e e2 : Ev}
set_option maxHeartbeats 2000000 in
set_option maxRecDepth 100000 in
theorem rf_same (h : Rd w B d e.b) (h2 : Rd w B2 d2 e2.b) : Calls Try.prog 34 #[.agg #[.int .i64 e.kind, .int .i64 e.sort, .int .i64 e.who, .int .i64 e.port, .int .i64 e.conn, .int .i64 e.n, .slice B e.b.length d], .agg #[.int .i64 e2.kind, .int .i64 e2.sort, .int .i64 e2.who, .int .i64 e2.port, .int .i64 e2.conn, .int .i64 e2.n, .slice B2 e2.b.length d2]] w fun r w' => r = .returned (.bool (decide (e = e2))) ∧ Ext w w' := by
  obtain ⟨k, s, wh, p, co, n, b⟩ := e
  obtain ⟨k2, s2, wh2, p2, co2, n2, b2⟩ := e2
  simp only at h h2 ⊢
  have xa := ext_alloc w (.cells #[.int .i64 k, .int .i64 s, .int .i64 wh, .int .i64 p, .int .i64 co, .int .i64 n, .slice B b.length d] 34)
  have xb := ext_trans xa (ext_alloc _ (.cells #[.int .i64 k2, .int .i64 s2, .int .i64 wh2, .int .i64 p2, .int .i64 co2, .int .i64 n2, .slice B2 b2.length d2] 34))
  have C1 := hid (run_convert_rd (P := Try.prog) (RdG.ext h xb) 22 5 Try.underlying22 Try.underlying5 9 Try.underlying9)
  have C2 := hid (run_convert_rd (P := Try.prog) (RdG.ext h2 xb) 22 5 Try.underlying22 Try.underlying5 9 Try.underlying9)
  have XB := hid xb
  simp only [Ev.mk.injEq]
  clear h h2 xa xb
  by_cases hk : ¬ k = k2
  · have qk : (k == k2) = false := by simpa using hk
    have D : Hid (decide (k = k2 ∧ s = s2 ∧ wh = wh2 ∧ p = p2 ∧ co = co2 ∧ n = n2 ∧ b = b2) = false) := hid (by simp [hk])
    rw [D.out]
    clear D hk
    go_enter Try.func34, Try.ntmps34
    go_wp2_with fail
    go_ret
    exact ⟨rfl, XB.out⟩
  have hk := Decidable.not_not.1 hk
  subst hk
  by_cases hs : ¬ s = s2
  · have qs : (s == s2) = false := by simpa using hs
    have D : Hid (decide (k = k ∧ s = s2 ∧ wh = wh2 ∧ p = p2 ∧ co = co2 ∧ n = n2 ∧ b = b2) = false) := hid (by simp [hs])
    rw [D.out]
    clear D hs
    go_enter Try.func34, Try.ntmps34
    go_wp2_with fail
    go_ret
    exact ⟨rfl, XB.out⟩
  have hs := Decidable.not_not.1 hs
  subst hs
  by_cases hwh : ¬ wh = wh2
  · have qwh : (wh == wh2) = false := by simpa using hwh
    have D : Hid (decide (k = k ∧ s = s ∧ wh = wh2 ∧ p = p2 ∧ co = co2 ∧ n = n2 ∧ b = b2) = false) := hid (by simp [hwh])
    rw [D.out]
    clear D hwh
    go_enter Try.func34, Try.ntmps34
    go_wp2_with fail
    go_ret
    exact ⟨rfl, XB.out⟩
  have hwh := Decidable.not_not.1 hwh
  subst hwh
  by_cases hp : ¬ p = p2
  · have qp : (p == p2) = false := by simpa using hp
    have D : Hid (decide (k = k ∧ s = s ∧ wh = wh ∧ p = p2 ∧ co = co2 ∧ n = n2 ∧ b = b2) = false) := hid (by simp [hp])
    rw [D.out]
    clear D hp
    go_enter Try.func34, Try.ntmps34
    go_wp2_with fail
    go_ret
    exact ⟨rfl, XB.out⟩
  have hp := Decidable.not_not.1 hp
  subst hp
  by_cases hco : ¬ co = co2
  · have qco : (co == co2) = false := by simpa using hco
    have D : Hid (decide (k = k ∧ s = s ∧ wh = wh ∧ p = p ∧ co = co2 ∧ n = n2 ∧ b = b2) = false) := hid (by simp [hco])
    rw [D.out]
    clear D hco
    go_enter Try.func34, Try.ntmps34
    go_wp2_with fail
    go_ret
    exact ⟨rfl, XB.out⟩
  have hco := Decidable.not_not.1 hco
  subst hco
  by_cases hn : ¬ n = n2
  · have qn : (n == n2) = false := by simpa using hn
    have D : Hid (decide (k = k ∧ s = s ∧ wh = wh ∧ p = p ∧ co = co ∧ n = n2 ∧ b = b2) = false) := hid (by simp [hn])
    rw [D.out]
    clear D hn
    go_enter Try.func34, Try.ntmps34
    go_wp2_with fail
    go_ret
    exact ⟨rfl, XB.out⟩
  have hn := Decidable.not_not.1 hn
  subst hn
  have D : Hid (decide (k = k ∧ s = s ∧ wh = wh ∧ p = p ∧ co = co ∧ n = n ∧ b = b2) = (b == b2)) := hid (by
    simp only [true_and]
    by_cases hbb : b = b2
    · subst hbb; simp
    · simp [hbb])
  rw [D.out]
  clear D
  have c1 := C1.out
  have c2 := C2.out
  go_enter Try.func34, Try.ntmps34
  go_wp2_with fail
  go_ret
  exact ⟨ret_bool rfl, XB.out⟩
end
end Go.Proofs.Ytholjbnggnfapaa

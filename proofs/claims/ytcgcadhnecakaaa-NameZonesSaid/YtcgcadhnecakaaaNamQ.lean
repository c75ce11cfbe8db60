/- The law NameOrders: the walk. -/
import Derived.Test.YtcgcadhnecakaaaNamX
namespace Go.Proofs.Ytcgcadhnecakaaa
open Go.BK Go.RowKit Go.BK.NM
set_option linter.unusedVariables false

/-- A function of names that answers v, whatever the memory. -/
def Tell (f : FuncId) (args : Array Value) (v : Value) : Prop := ∀ W : World, Calls Try.prog f args W fun e w' => e = .returned v ∧ Ext W w'

theorem Tell.on {f : FuncId} {args : Array Value} {v : Value} (h : Tell f args v) (W : World) : Calls Try.prog f args W fun e w' => e = .returned v ∧ Ext W w' := h W
structure OrdFacts (ta tb tc tp la lb : ByteArray) (x z u : Int) (is vab vac vbc vca vcb : Bool) (na np : Nat) : Prop where
  cA : Tell 16 #[.string ta] (.int .i64 0)
  cB : Tell 16 #[.string tb] (.int .i64 0)
  cC : Tell 16 #[.string tc] (.int .i64 0)
  xab : Tell 31 #[.string ta, .string tb] (.int .i64 x)
  xba : Tell 31 #[.string tb, .string ta] (.int .i64 (-x))
  xbc : Tell 31 #[.string tb, .string tc] (.int .i64 z)
  xac : Tell 31 #[.string ta, .string tc] (.int .i64 u)
  same : Tell 28 #[.string ta, .string tb] (.bool (x == 0))
  lowA : Tell 26 #[.string ta] (.string la)
  lowB : Tell 26 #[.string tb] (.string lb)
  wac : Tell 23 #[.string ta, .string tc] (.bool vac)
  wbc : Tell 23 #[.string tb, .string tc] (.bool vbc)
  wca : Tell 23 #[.string tc, .string ta] (.bool vca)
  wcb : Tell 23 #[.string tc, .string tb] (.bool vcb)
  par : Tell 24 #[.string ta] (.tuple #[.string tp, .bool is])
  cntA : Tell 18 #[.string ta] (.int .i64 na)
  cntP : Tell 18 #[.string tp] (.int .i64 np)
  wap : Tell 23 #[.string ta, .string tp] (.bool is)
  wpa : is = true → Tell 23 #[.string tp, .string ta] (.bool false)
  waa : Tell 23 #[.string ta, .string ta] (.bool true)
  wa0 : Tell 23 #[.string ta, .string ⟨#[0]⟩] (.bool true)
  wab : Tell 23 #[.string ta, .string tb] (.bool vab)
  szA : ta.size ≤ 400
  szB : tb.size ≤ 400
  szC : tc.size ≤ 400
  low : (la.toList == lb.toList) = (x == 0)
  x3 : x = -1 ∨ x = 0 ∨ x = 1
  zu : x ≤ 0 → z ≤ 0 → u ≤ 0
  eqs : x = 0 → vac = vbc ∧ vca = vcb
  cnt : (is = true ∧ na = np + 1) ∨ (is = false ∧ na = 0)
  ahead : vab = true → 0 ≤ x
  na9 : na ≤ 400

set_option maxHeartbeats 16000000 in
set_option maxRecDepth 100000 in
theorem orders_core {ta tb tc tp la lb : ByteArray} {x z u : Int} {is vab vac vbc vca vcb : Bool} {na np : Nat} (F : OrdFacts ta tb tc tp la lb x z u is vab vac vbc vca vcb na np) (w : World) :
    Calls Try.prog 6 #[.string ta, .string tb, .string tc] w fun e w' => e = .returned (.bool true) ∧ Below w.heap.size w w' := by
  have HF := hid F
  have x3 := F.x3
  have zu := F.zu
  have eqs := F.eqs
  have cnt := F.cnt
  have ahead := F.ahead
  have na9 := F.na9
  have ka := F.szA
  have kb := F.szB
  have kc := F.szC
  have z1 : decide ((400 : Int) < (ta.size : Int)) = false := by rw [decide_eq_false_iff_not]; omega
  have z1' : decide (400 < ta.size) = false := by rw [decide_eq_false_iff_not]; omega
  have z2 : decide ((400 : Int) < (tb.size : Int)) = false := by rw [decide_eq_false_iff_not]; omega
  have z2' : decide (400 < tb.size) = false := by rw [decide_eq_false_iff_not]; omega
  have z3 : decide ((400 : Int) < (tc.size : Int)) = false := by rw [decide_eq_false_iff_not]; omega
  have z3' : decide (400 < tc.size) = false := by rw [decide_eq_false_iff_not]; omega
  have hlow := F.low
  clear F
  rcases x3 with rfl | rfl | rfl
  · have hvab : vab = false := by rcases vab with _ | _; rfl; exact absurd (ahead rfl) (by decide)
    subst hvab
    have el : (la.toList == lb.toList) = false := hlow
    by_cases hz : z ≤ 0
    · have hu := zu (by decide) hz
      have y1 : decide (z ≤ 0) = true := by rw [decide_eq_true_iff]; exact hz
      have y2 : decide (0 < u) = false := by rw [decide_eq_false_iff_not]; omega
      clear hu hz zu eqs ahead hlow
      rcases cnt with ⟨rfl, rfl⟩ | ⟨rfl, rfl⟩
      · have y3 : decide ((0 : Int) < (np : Int) + 1) = true := by rw [decide_eq_true_iff]; omega
        have y3' : decide ((0 : Int) < ((np + 1 : Nat) : Int)) = true := by rw [decide_eq_true_iff]; omega
        go_enter Try.func6, Try.ntmps6
        have X := hid (ext_refl w)
        go_wp2_with fail
        (with_reducible refine (awake_in _).mono ?_)
        rintro e w2 ⟨rfl, x⟩
        have X := hid (ext_trans X.out x)
        clear x
        go_wp2_with fail
        (with_reducible refine (HF.out.cA.on _).mono ?_)
        rintro e w2 ⟨rfl, x⟩
        have X := hid (ext_trans X.out x)
        clear x
        go_wp2_with fail
        (with_reducible refine (HF.out.cB.on _).mono ?_)
        rintro e w2 ⟨rfl, x⟩
        have X := hid (ext_trans X.out x)
        clear x
        go_wp2_with fail
        (with_reducible refine (HF.out.cC.on _).mono ?_)
        rintro e w2 ⟨rfl, x⟩
        have X := hid (ext_trans X.out x)
        clear x
        go_wp2_with fail
        (with_reducible refine (HF.out.xab.on _).mono ?_)
        rintro e w2 ⟨rfl, x⟩
        have X := hid (ext_trans X.out x)
        clear x
        go_wp2_with fail
        (with_reducible refine (HF.out.xba.on _).mono ?_)
        rintro e w2 ⟨rfl, x⟩
        have X := hid (ext_trans X.out x)
        clear x
        go_wp2_with fail
        (with_reducible refine (HF.out.same.on _).mono ?_)
        rintro e w2 ⟨rfl, x⟩
        have X := hid (ext_trans X.out x)
        clear x
        go_wp2_with fail
        (with_reducible refine (HF.out.same.on _).mono ?_)
        rintro e w2 ⟨rfl, x⟩
        have X := hid (ext_trans X.out x)
        clear x
        go_wp2_with fail
        (with_reducible refine (HF.out.lowA.on _).mono ?_)
        rintro e w2 ⟨rfl, x⟩
        have X := hid (ext_trans X.out x)
        clear x
        go_wp2_with fail
        (with_reducible refine (HF.out.lowB.on _).mono ?_)
        rintro e w2 ⟨rfl, x⟩
        have X := hid (ext_trans X.out x)
        clear x
        go_wp2_with fail
        (with_reducible refine (HF.out.xbc.on _).mono ?_)
        rintro e w2 ⟨rfl, x⟩
        have X := hid (ext_trans X.out x)
        clear x
        go_wp2_with fail
        (with_reducible refine (HF.out.xac.on _).mono ?_)
        rintro e w2 ⟨rfl, x⟩
        have X := hid (ext_trans X.out x)
        clear x
        go_wp2_with fail
        (with_reducible refine (HF.out.par.on _).mono ?_)
        rintro e w2 ⟨rfl, x⟩
        have X := hid (ext_trans X.out x)
        clear x
        go_wp2_with fail
        (with_reducible refine (HF.out.cntA.on _).mono ?_)
        rintro e w2 ⟨rfl, x⟩
        have X := hid (ext_trans X.out x)
        clear x
        go_wp2_with fail
        (with_reducible refine (HF.out.wap.on _).mono ?_)
        rintro e w2 ⟨rfl, x⟩
        have X := hid (ext_trans X.out x)
        clear x
        go_wp2_with fail
        (with_reducible refine (HF.out.cntP.on _).mono ?_)
        rintro e w2 ⟨rfl, x⟩
        have X := hid (ext_trans X.out x)
        clear x
        go_wp2_with fail
        (with_reducible refine (HF.out.cntA.on _).mono ?_)
        rintro e w2 ⟨rfl, x⟩
        have X := hid (ext_trans X.out x)
        clear x
        go_wp2_with fail
        (with_reducible refine ((HF.out.wpa rfl).on _).mono ?_)
        rintro e w2 ⟨rfl, x⟩
        have X := hid (ext_trans X.out x)
        clear x
        go_wp2_with fail
        (with_reducible refine (HF.out.waa.on _).mono ?_)
        rintro e w2 ⟨rfl, x⟩
        have X := hid (ext_trans X.out x)
        clear x
        go_wp2_with fail
        (with_reducible refine (HF.out.wa0.on _).mono ?_)
        rintro e w2 ⟨rfl, x⟩
        have X := hid (ext_trans X.out x)
        clear x
        go_wp2_with fail
        (with_reducible refine (HF.out.wab.on _).mono ?_)
        rintro e w2 ⟨rfl, x⟩
        have X := hid (ext_trans X.out x)
        clear x
        go_wp2_with fail
        go_ret
        exact ⟨rfl, X.out⟩
      · go_enter Try.func6, Try.ntmps6
        have X := hid (ext_refl w)
        go_wp2_with fail
        (with_reducible refine (awake_in _).mono ?_)
        rintro e w2 ⟨rfl, x⟩
        have X := hid (ext_trans X.out x)
        clear x
        go_wp2_with fail
        (with_reducible refine (HF.out.cA.on _).mono ?_)
        rintro e w2 ⟨rfl, x⟩
        have X := hid (ext_trans X.out x)
        clear x
        go_wp2_with fail
        (with_reducible refine (HF.out.cB.on _).mono ?_)
        rintro e w2 ⟨rfl, x⟩
        have X := hid (ext_trans X.out x)
        clear x
        go_wp2_with fail
        (with_reducible refine (HF.out.cC.on _).mono ?_)
        rintro e w2 ⟨rfl, x⟩
        have X := hid (ext_trans X.out x)
        clear x
        go_wp2_with fail
        (with_reducible refine (HF.out.xab.on _).mono ?_)
        rintro e w2 ⟨rfl, x⟩
        have X := hid (ext_trans X.out x)
        clear x
        go_wp2_with fail
        (with_reducible refine (HF.out.xba.on _).mono ?_)
        rintro e w2 ⟨rfl, x⟩
        have X := hid (ext_trans X.out x)
        clear x
        go_wp2_with fail
        (with_reducible refine (HF.out.same.on _).mono ?_)
        rintro e w2 ⟨rfl, x⟩
        have X := hid (ext_trans X.out x)
        clear x
        go_wp2_with fail
        (with_reducible refine (HF.out.same.on _).mono ?_)
        rintro e w2 ⟨rfl, x⟩
        have X := hid (ext_trans X.out x)
        clear x
        go_wp2_with fail
        (with_reducible refine (HF.out.lowA.on _).mono ?_)
        rintro e w2 ⟨rfl, x⟩
        have X := hid (ext_trans X.out x)
        clear x
        go_wp2_with fail
        (with_reducible refine (HF.out.lowB.on _).mono ?_)
        rintro e w2 ⟨rfl, x⟩
        have X := hid (ext_trans X.out x)
        clear x
        go_wp2_with fail
        (with_reducible refine (HF.out.xbc.on _).mono ?_)
        rintro e w2 ⟨rfl, x⟩
        have X := hid (ext_trans X.out x)
        clear x
        go_wp2_with fail
        (with_reducible refine (HF.out.xac.on _).mono ?_)
        rintro e w2 ⟨rfl, x⟩
        have X := hid (ext_trans X.out x)
        clear x
        go_wp2_with fail
        (with_reducible refine (HF.out.par.on _).mono ?_)
        rintro e w2 ⟨rfl, x⟩
        have X := hid (ext_trans X.out x)
        clear x
        go_wp2_with fail
        (with_reducible refine (HF.out.cntA.on _).mono ?_)
        rintro e w2 ⟨rfl, x⟩
        have X := hid (ext_trans X.out x)
        clear x
        go_wp2_with fail
        (with_reducible refine (HF.out.waa.on _).mono ?_)
        rintro e w2 ⟨rfl, x⟩
        have X := hid (ext_trans X.out x)
        clear x
        go_wp2_with fail
        (with_reducible refine (HF.out.wa0.on _).mono ?_)
        rintro e w2 ⟨rfl, x⟩
        have X := hid (ext_trans X.out x)
        clear x
        go_wp2_with fail
        (with_reducible refine (HF.out.wab.on _).mono ?_)
        rintro e w2 ⟨rfl, x⟩
        have X := hid (ext_trans X.out x)
        clear x
        go_wp2_with fail
        go_ret
        exact ⟨rfl, X.out⟩
    · have y1 : decide (z ≤ 0) = false := by rw [decide_eq_false_iff_not]; exact hz
      clear hz zu eqs ahead hlow
      rcases cnt with ⟨rfl, rfl⟩ | ⟨rfl, rfl⟩
      · have y3 : decide ((0 : Int) < (np : Int) + 1) = true := by rw [decide_eq_true_iff]; omega
        have y3' : decide ((0 : Int) < ((np + 1 : Nat) : Int)) = true := by rw [decide_eq_true_iff]; omega
        go_enter Try.func6, Try.ntmps6
        have X := hid (ext_refl w)
        go_wp2_with fail
        (with_reducible refine (awake_in _).mono ?_)
        rintro e w2 ⟨rfl, x⟩
        have X := hid (ext_trans X.out x)
        clear x
        go_wp2_with fail
        (with_reducible refine (HF.out.cA.on _).mono ?_)
        rintro e w2 ⟨rfl, x⟩
        have X := hid (ext_trans X.out x)
        clear x
        go_wp2_with fail
        (with_reducible refine (HF.out.cB.on _).mono ?_)
        rintro e w2 ⟨rfl, x⟩
        have X := hid (ext_trans X.out x)
        clear x
        go_wp2_with fail
        (with_reducible refine (HF.out.cC.on _).mono ?_)
        rintro e w2 ⟨rfl, x⟩
        have X := hid (ext_trans X.out x)
        clear x
        go_wp2_with fail
        (with_reducible refine (HF.out.xab.on _).mono ?_)
        rintro e w2 ⟨rfl, x⟩
        have X := hid (ext_trans X.out x)
        clear x
        go_wp2_with fail
        (with_reducible refine (HF.out.xba.on _).mono ?_)
        rintro e w2 ⟨rfl, x⟩
        have X := hid (ext_trans X.out x)
        clear x
        go_wp2_with fail
        (with_reducible refine (HF.out.same.on _).mono ?_)
        rintro e w2 ⟨rfl, x⟩
        have X := hid (ext_trans X.out x)
        clear x
        go_wp2_with fail
        (with_reducible refine (HF.out.same.on _).mono ?_)
        rintro e w2 ⟨rfl, x⟩
        have X := hid (ext_trans X.out x)
        clear x
        go_wp2_with fail
        (with_reducible refine (HF.out.lowA.on _).mono ?_)
        rintro e w2 ⟨rfl, x⟩
        have X := hid (ext_trans X.out x)
        clear x
        go_wp2_with fail
        (with_reducible refine (HF.out.lowB.on _).mono ?_)
        rintro e w2 ⟨rfl, x⟩
        have X := hid (ext_trans X.out x)
        clear x
        go_wp2_with fail
        (with_reducible refine (HF.out.xbc.on _).mono ?_)
        rintro e w2 ⟨rfl, x⟩
        have X := hid (ext_trans X.out x)
        clear x
        go_wp2_with fail
        (with_reducible refine (HF.out.par.on _).mono ?_)
        rintro e w2 ⟨rfl, x⟩
        have X := hid (ext_trans X.out x)
        clear x
        go_wp2_with fail
        (with_reducible refine (HF.out.cntA.on _).mono ?_)
        rintro e w2 ⟨rfl, x⟩
        have X := hid (ext_trans X.out x)
        clear x
        go_wp2_with fail
        (with_reducible refine (HF.out.wap.on _).mono ?_)
        rintro e w2 ⟨rfl, x⟩
        have X := hid (ext_trans X.out x)
        clear x
        go_wp2_with fail
        (with_reducible refine (HF.out.cntP.on _).mono ?_)
        rintro e w2 ⟨rfl, x⟩
        have X := hid (ext_trans X.out x)
        clear x
        go_wp2_with fail
        (with_reducible refine (HF.out.cntA.on _).mono ?_)
        rintro e w2 ⟨rfl, x⟩
        have X := hid (ext_trans X.out x)
        clear x
        go_wp2_with fail
        (with_reducible refine ((HF.out.wpa rfl).on _).mono ?_)
        rintro e w2 ⟨rfl, x⟩
        have X := hid (ext_trans X.out x)
        clear x
        go_wp2_with fail
        (with_reducible refine (HF.out.waa.on _).mono ?_)
        rintro e w2 ⟨rfl, x⟩
        have X := hid (ext_trans X.out x)
        clear x
        go_wp2_with fail
        (with_reducible refine (HF.out.wa0.on _).mono ?_)
        rintro e w2 ⟨rfl, x⟩
        have X := hid (ext_trans X.out x)
        clear x
        go_wp2_with fail
        (with_reducible refine (HF.out.wab.on _).mono ?_)
        rintro e w2 ⟨rfl, x⟩
        have X := hid (ext_trans X.out x)
        clear x
        go_wp2_with fail
        go_ret
        exact ⟨rfl, X.out⟩
      · go_enter Try.func6, Try.ntmps6
        have X := hid (ext_refl w)
        go_wp2_with fail
        (with_reducible refine (awake_in _).mono ?_)
        rintro e w2 ⟨rfl, x⟩
        have X := hid (ext_trans X.out x)
        clear x
        go_wp2_with fail
        (with_reducible refine (HF.out.cA.on _).mono ?_)
        rintro e w2 ⟨rfl, x⟩
        have X := hid (ext_trans X.out x)
        clear x
        go_wp2_with fail
        (with_reducible refine (HF.out.cB.on _).mono ?_)
        rintro e w2 ⟨rfl, x⟩
        have X := hid (ext_trans X.out x)
        clear x
        go_wp2_with fail
        (with_reducible refine (HF.out.cC.on _).mono ?_)
        rintro e w2 ⟨rfl, x⟩
        have X := hid (ext_trans X.out x)
        clear x
        go_wp2_with fail
        (with_reducible refine (HF.out.xab.on _).mono ?_)
        rintro e w2 ⟨rfl, x⟩
        have X := hid (ext_trans X.out x)
        clear x
        go_wp2_with fail
        (with_reducible refine (HF.out.xba.on _).mono ?_)
        rintro e w2 ⟨rfl, x⟩
        have X := hid (ext_trans X.out x)
        clear x
        go_wp2_with fail
        (with_reducible refine (HF.out.same.on _).mono ?_)
        rintro e w2 ⟨rfl, x⟩
        have X := hid (ext_trans X.out x)
        clear x
        go_wp2_with fail
        (with_reducible refine (HF.out.same.on _).mono ?_)
        rintro e w2 ⟨rfl, x⟩
        have X := hid (ext_trans X.out x)
        clear x
        go_wp2_with fail
        (with_reducible refine (HF.out.lowA.on _).mono ?_)
        rintro e w2 ⟨rfl, x⟩
        have X := hid (ext_trans X.out x)
        clear x
        go_wp2_with fail
        (with_reducible refine (HF.out.lowB.on _).mono ?_)
        rintro e w2 ⟨rfl, x⟩
        have X := hid (ext_trans X.out x)
        clear x
        go_wp2_with fail
        (with_reducible refine (HF.out.xbc.on _).mono ?_)
        rintro e w2 ⟨rfl, x⟩
        have X := hid (ext_trans X.out x)
        clear x
        go_wp2_with fail
        (with_reducible refine (HF.out.par.on _).mono ?_)
        rintro e w2 ⟨rfl, x⟩
        have X := hid (ext_trans X.out x)
        clear x
        go_wp2_with fail
        (with_reducible refine (HF.out.cntA.on _).mono ?_)
        rintro e w2 ⟨rfl, x⟩
        have X := hid (ext_trans X.out x)
        clear x
        go_wp2_with fail
        (with_reducible refine (HF.out.waa.on _).mono ?_)
        rintro e w2 ⟨rfl, x⟩
        have X := hid (ext_trans X.out x)
        clear x
        go_wp2_with fail
        (with_reducible refine (HF.out.wa0.on _).mono ?_)
        rintro e w2 ⟨rfl, x⟩
        have X := hid (ext_trans X.out x)
        clear x
        go_wp2_with fail
        (with_reducible refine (HF.out.wab.on _).mono ?_)
        rintro e w2 ⟨rfl, x⟩
        have X := hid (ext_trans X.out x)
        clear x
        go_wp2_with fail
        go_ret
        exact ⟨rfl, X.out⟩
  · obtain ⟨rfl, rfl⟩ := eqs rfl
    have el : (la.toList == lb.toList) = true := hlow
    have b1 : (vac == vac) = true := by simp
    have b2 : (vca == vca) = true := by simp
    rcases vab with _ | _
    · by_cases hz : z ≤ 0
      · have hu := zu (by decide) hz
        have y1 : decide (z ≤ 0) = true := by rw [decide_eq_true_iff]; exact hz
        have y2 : decide (0 < u) = false := by rw [decide_eq_false_iff_not]; omega
        clear hu hz zu eqs ahead hlow
        rcases cnt with ⟨rfl, rfl⟩ | ⟨rfl, rfl⟩
        · have y3 : decide ((0 : Int) < (np : Int) + 1) = true := by rw [decide_eq_true_iff]; omega
          have y3' : decide ((0 : Int) < ((np + 1 : Nat) : Int)) = true := by rw [decide_eq_true_iff]; omega
          go_enter Try.func6, Try.ntmps6
          have X := hid (ext_refl w)
          go_wp2_with fail
          (with_reducible refine (awake_in _).mono ?_)
          rintro e w2 ⟨rfl, x⟩
          have X := hid (ext_trans X.out x)
          clear x
          go_wp2_with fail
          (with_reducible refine (HF.out.cA.on _).mono ?_)
          rintro e w2 ⟨rfl, x⟩
          have X := hid (ext_trans X.out x)
          clear x
          go_wp2_with fail
          (with_reducible refine (HF.out.cB.on _).mono ?_)
          rintro e w2 ⟨rfl, x⟩
          have X := hid (ext_trans X.out x)
          clear x
          go_wp2_with fail
          (with_reducible refine (HF.out.cC.on _).mono ?_)
          rintro e w2 ⟨rfl, x⟩
          have X := hid (ext_trans X.out x)
          clear x
          go_wp2_with fail
          (with_reducible refine (HF.out.xab.on _).mono ?_)
          rintro e w2 ⟨rfl, x⟩
          have X := hid (ext_trans X.out x)
          clear x
          go_wp2_with fail
          (with_reducible refine (HF.out.xba.on _).mono ?_)
          rintro e w2 ⟨rfl, x⟩
          have X := hid (ext_trans X.out x)
          clear x
          go_wp2_with fail
          (with_reducible refine (HF.out.same.on _).mono ?_)
          rintro e w2 ⟨rfl, x⟩
          have X := hid (ext_trans X.out x)
          clear x
          go_wp2_with fail
          (with_reducible refine (HF.out.same.on _).mono ?_)
          rintro e w2 ⟨rfl, x⟩
          have X := hid (ext_trans X.out x)
          clear x
          go_wp2_with fail
          (with_reducible refine (HF.out.lowA.on _).mono ?_)
          rintro e w2 ⟨rfl, x⟩
          have X := hid (ext_trans X.out x)
          clear x
          go_wp2_with fail
          (with_reducible refine (HF.out.lowB.on _).mono ?_)
          rintro e w2 ⟨rfl, x⟩
          have X := hid (ext_trans X.out x)
          clear x
          go_wp2_with fail
          (with_reducible refine (HF.out.xbc.on _).mono ?_)
          rintro e w2 ⟨rfl, x⟩
          have X := hid (ext_trans X.out x)
          clear x
          go_wp2_with fail
          (with_reducible refine (HF.out.xac.on _).mono ?_)
          rintro e w2 ⟨rfl, x⟩
          have X := hid (ext_trans X.out x)
          clear x
          go_wp2_with fail
          (with_reducible refine (HF.out.wac.on _).mono ?_)
          rintro e w2 ⟨rfl, x⟩
          have X := hid (ext_trans X.out x)
          clear x
          go_wp2_with fail
          (with_reducible refine (HF.out.wbc.on _).mono ?_)
          rintro e w2 ⟨rfl, x⟩
          have X := hid (ext_trans X.out x)
          clear x
          go_wp2_with fail
          (with_reducible refine (HF.out.wca.on _).mono ?_)
          rintro e w2 ⟨rfl, x⟩
          have X := hid (ext_trans X.out x)
          clear x
          go_wp2_with fail
          (with_reducible refine (HF.out.wcb.on _).mono ?_)
          rintro e w2 ⟨rfl, x⟩
          have X := hid (ext_trans X.out x)
          clear x
          go_wp2_with fail
          (with_reducible refine (HF.out.par.on _).mono ?_)
          rintro e w2 ⟨rfl, x⟩
          have X := hid (ext_trans X.out x)
          clear x
          go_wp2_with fail
          (with_reducible refine (HF.out.cntA.on _).mono ?_)
          rintro e w2 ⟨rfl, x⟩
          have X := hid (ext_trans X.out x)
          clear x
          go_wp2_with fail
          (with_reducible refine (HF.out.wap.on _).mono ?_)
          rintro e w2 ⟨rfl, x⟩
          have X := hid (ext_trans X.out x)
          clear x
          go_wp2_with fail
          (with_reducible refine (HF.out.cntP.on _).mono ?_)
          rintro e w2 ⟨rfl, x⟩
          have X := hid (ext_trans X.out x)
          clear x
          go_wp2_with fail
          (with_reducible refine (HF.out.cntA.on _).mono ?_)
          rintro e w2 ⟨rfl, x⟩
          have X := hid (ext_trans X.out x)
          clear x
          go_wp2_with fail
          (with_reducible refine ((HF.out.wpa rfl).on _).mono ?_)
          rintro e w2 ⟨rfl, x⟩
          have X := hid (ext_trans X.out x)
          clear x
          go_wp2_with fail
          (with_reducible refine (HF.out.waa.on _).mono ?_)
          rintro e w2 ⟨rfl, x⟩
          have X := hid (ext_trans X.out x)
          clear x
          go_wp2_with fail
          (with_reducible refine (HF.out.wa0.on _).mono ?_)
          rintro e w2 ⟨rfl, x⟩
          have X := hid (ext_trans X.out x)
          clear x
          go_wp2_with fail
          (with_reducible refine (HF.out.wab.on _).mono ?_)
          rintro e w2 ⟨rfl, x⟩
          have X := hid (ext_trans X.out x)
          clear x
          go_wp2_with fail
          go_ret
          exact ⟨rfl, X.out⟩
        · go_enter Try.func6, Try.ntmps6
          have X := hid (ext_refl w)
          go_wp2_with fail
          (with_reducible refine (awake_in _).mono ?_)
          rintro e w2 ⟨rfl, x⟩
          have X := hid (ext_trans X.out x)
          clear x
          go_wp2_with fail
          (with_reducible refine (HF.out.cA.on _).mono ?_)
          rintro e w2 ⟨rfl, x⟩
          have X := hid (ext_trans X.out x)
          clear x
          go_wp2_with fail
          (with_reducible refine (HF.out.cB.on _).mono ?_)
          rintro e w2 ⟨rfl, x⟩
          have X := hid (ext_trans X.out x)
          clear x
          go_wp2_with fail
          (with_reducible refine (HF.out.cC.on _).mono ?_)
          rintro e w2 ⟨rfl, x⟩
          have X := hid (ext_trans X.out x)
          clear x
          go_wp2_with fail
          (with_reducible refine (HF.out.xab.on _).mono ?_)
          rintro e w2 ⟨rfl, x⟩
          have X := hid (ext_trans X.out x)
          clear x
          go_wp2_with fail
          (with_reducible refine (HF.out.xba.on _).mono ?_)
          rintro e w2 ⟨rfl, x⟩
          have X := hid (ext_trans X.out x)
          clear x
          go_wp2_with fail
          (with_reducible refine (HF.out.same.on _).mono ?_)
          rintro e w2 ⟨rfl, x⟩
          have X := hid (ext_trans X.out x)
          clear x
          go_wp2_with fail
          (with_reducible refine (HF.out.same.on _).mono ?_)
          rintro e w2 ⟨rfl, x⟩
          have X := hid (ext_trans X.out x)
          clear x
          go_wp2_with fail
          (with_reducible refine (HF.out.lowA.on _).mono ?_)
          rintro e w2 ⟨rfl, x⟩
          have X := hid (ext_trans X.out x)
          clear x
          go_wp2_with fail
          (with_reducible refine (HF.out.lowB.on _).mono ?_)
          rintro e w2 ⟨rfl, x⟩
          have X := hid (ext_trans X.out x)
          clear x
          go_wp2_with fail
          (with_reducible refine (HF.out.xbc.on _).mono ?_)
          rintro e w2 ⟨rfl, x⟩
          have X := hid (ext_trans X.out x)
          clear x
          go_wp2_with fail
          (with_reducible refine (HF.out.xac.on _).mono ?_)
          rintro e w2 ⟨rfl, x⟩
          have X := hid (ext_trans X.out x)
          clear x
          go_wp2_with fail
          (with_reducible refine (HF.out.wac.on _).mono ?_)
          rintro e w2 ⟨rfl, x⟩
          have X := hid (ext_trans X.out x)
          clear x
          go_wp2_with fail
          (with_reducible refine (HF.out.wbc.on _).mono ?_)
          rintro e w2 ⟨rfl, x⟩
          have X := hid (ext_trans X.out x)
          clear x
          go_wp2_with fail
          (with_reducible refine (HF.out.wca.on _).mono ?_)
          rintro e w2 ⟨rfl, x⟩
          have X := hid (ext_trans X.out x)
          clear x
          go_wp2_with fail
          (with_reducible refine (HF.out.wcb.on _).mono ?_)
          rintro e w2 ⟨rfl, x⟩
          have X := hid (ext_trans X.out x)
          clear x
          go_wp2_with fail
          (with_reducible refine (HF.out.par.on _).mono ?_)
          rintro e w2 ⟨rfl, x⟩
          have X := hid (ext_trans X.out x)
          clear x
          go_wp2_with fail
          (with_reducible refine (HF.out.cntA.on _).mono ?_)
          rintro e w2 ⟨rfl, x⟩
          have X := hid (ext_trans X.out x)
          clear x
          go_wp2_with fail
          (with_reducible refine (HF.out.waa.on _).mono ?_)
          rintro e w2 ⟨rfl, x⟩
          have X := hid (ext_trans X.out x)
          clear x
          go_wp2_with fail
          (with_reducible refine (HF.out.wa0.on _).mono ?_)
          rintro e w2 ⟨rfl, x⟩
          have X := hid (ext_trans X.out x)
          clear x
          go_wp2_with fail
          (with_reducible refine (HF.out.wab.on _).mono ?_)
          rintro e w2 ⟨rfl, x⟩
          have X := hid (ext_trans X.out x)
          clear x
          go_wp2_with fail
          go_ret
          exact ⟨rfl, X.out⟩
      · have y1 : decide (z ≤ 0) = false := by rw [decide_eq_false_iff_not]; exact hz
        clear hz zu eqs ahead hlow
        rcases cnt with ⟨rfl, rfl⟩ | ⟨rfl, rfl⟩
        · have y3 : decide ((0 : Int) < (np : Int) + 1) = true := by rw [decide_eq_true_iff]; omega
          have y3' : decide ((0 : Int) < ((np + 1 : Nat) : Int)) = true := by rw [decide_eq_true_iff]; omega
          go_enter Try.func6, Try.ntmps6
          have X := hid (ext_refl w)
          go_wp2_with fail
          (with_reducible refine (awake_in _).mono ?_)
          rintro e w2 ⟨rfl, x⟩
          have X := hid (ext_trans X.out x)
          clear x
          go_wp2_with fail
          (with_reducible refine (HF.out.cA.on _).mono ?_)
          rintro e w2 ⟨rfl, x⟩
          have X := hid (ext_trans X.out x)
          clear x
          go_wp2_with fail
          (with_reducible refine (HF.out.cB.on _).mono ?_)
          rintro e w2 ⟨rfl, x⟩
          have X := hid (ext_trans X.out x)
          clear x
          go_wp2_with fail
          (with_reducible refine (HF.out.cC.on _).mono ?_)
          rintro e w2 ⟨rfl, x⟩
          have X := hid (ext_trans X.out x)
          clear x
          go_wp2_with fail
          (with_reducible refine (HF.out.xab.on _).mono ?_)
          rintro e w2 ⟨rfl, x⟩
          have X := hid (ext_trans X.out x)
          clear x
          go_wp2_with fail
          (with_reducible refine (HF.out.xba.on _).mono ?_)
          rintro e w2 ⟨rfl, x⟩
          have X := hid (ext_trans X.out x)
          clear x
          go_wp2_with fail
          (with_reducible refine (HF.out.same.on _).mono ?_)
          rintro e w2 ⟨rfl, x⟩
          have X := hid (ext_trans X.out x)
          clear x
          go_wp2_with fail
          (with_reducible refine (HF.out.same.on _).mono ?_)
          rintro e w2 ⟨rfl, x⟩
          have X := hid (ext_trans X.out x)
          clear x
          go_wp2_with fail
          (with_reducible refine (HF.out.lowA.on _).mono ?_)
          rintro e w2 ⟨rfl, x⟩
          have X := hid (ext_trans X.out x)
          clear x
          go_wp2_with fail
          (with_reducible refine (HF.out.lowB.on _).mono ?_)
          rintro e w2 ⟨rfl, x⟩
          have X := hid (ext_trans X.out x)
          clear x
          go_wp2_with fail
          (with_reducible refine (HF.out.xbc.on _).mono ?_)
          rintro e w2 ⟨rfl, x⟩
          have X := hid (ext_trans X.out x)
          clear x
          go_wp2_with fail
          (with_reducible refine (HF.out.wac.on _).mono ?_)
          rintro e w2 ⟨rfl, x⟩
          have X := hid (ext_trans X.out x)
          clear x
          go_wp2_with fail
          (with_reducible refine (HF.out.wbc.on _).mono ?_)
          rintro e w2 ⟨rfl, x⟩
          have X := hid (ext_trans X.out x)
          clear x
          go_wp2_with fail
          (with_reducible refine (HF.out.wca.on _).mono ?_)
          rintro e w2 ⟨rfl, x⟩
          have X := hid (ext_trans X.out x)
          clear x
          go_wp2_with fail
          (with_reducible refine (HF.out.wcb.on _).mono ?_)
          rintro e w2 ⟨rfl, x⟩
          have X := hid (ext_trans X.out x)
          clear x
          go_wp2_with fail
          (with_reducible refine (HF.out.par.on _).mono ?_)
          rintro e w2 ⟨rfl, x⟩
          have X := hid (ext_trans X.out x)
          clear x
          go_wp2_with fail
          (with_reducible refine (HF.out.cntA.on _).mono ?_)
          rintro e w2 ⟨rfl, x⟩
          have X := hid (ext_trans X.out x)
          clear x
          go_wp2_with fail
          (with_reducible refine (HF.out.wap.on _).mono ?_)
          rintro e w2 ⟨rfl, x⟩
          have X := hid (ext_trans X.out x)
          clear x
          go_wp2_with fail
          (with_reducible refine (HF.out.cntP.on _).mono ?_)
          rintro e w2 ⟨rfl, x⟩
          have X := hid (ext_trans X.out x)
          clear x
          go_wp2_with fail
          (with_reducible refine (HF.out.cntA.on _).mono ?_)
          rintro e w2 ⟨rfl, x⟩
          have X := hid (ext_trans X.out x)
          clear x
          go_wp2_with fail
          (with_reducible refine ((HF.out.wpa rfl).on _).mono ?_)
          rintro e w2 ⟨rfl, x⟩
          have X := hid (ext_trans X.out x)
          clear x
          go_wp2_with fail
          (with_reducible refine (HF.out.waa.on _).mono ?_)
          rintro e w2 ⟨rfl, x⟩
          have X := hid (ext_trans X.out x)
          clear x
          go_wp2_with fail
          (with_reducible refine (HF.out.wa0.on _).mono ?_)
          rintro e w2 ⟨rfl, x⟩
          have X := hid (ext_trans X.out x)
          clear x
          go_wp2_with fail
          (with_reducible refine (HF.out.wab.on _).mono ?_)
          rintro e w2 ⟨rfl, x⟩
          have X := hid (ext_trans X.out x)
          clear x
          go_wp2_with fail
          go_ret
          exact ⟨rfl, X.out⟩
        · go_enter Try.func6, Try.ntmps6
          have X := hid (ext_refl w)
          go_wp2_with fail
          (with_reducible refine (awake_in _).mono ?_)
          rintro e w2 ⟨rfl, x⟩
          have X := hid (ext_trans X.out x)
          clear x
          go_wp2_with fail
          (with_reducible refine (HF.out.cA.on _).mono ?_)
          rintro e w2 ⟨rfl, x⟩
          have X := hid (ext_trans X.out x)
          clear x
          go_wp2_with fail
          (with_reducible refine (HF.out.cB.on _).mono ?_)
          rintro e w2 ⟨rfl, x⟩
          have X := hid (ext_trans X.out x)
          clear x
          go_wp2_with fail
          (with_reducible refine (HF.out.cC.on _).mono ?_)
          rintro e w2 ⟨rfl, x⟩
          have X := hid (ext_trans X.out x)
          clear x
          go_wp2_with fail
          (with_reducible refine (HF.out.xab.on _).mono ?_)
          rintro e w2 ⟨rfl, x⟩
          have X := hid (ext_trans X.out x)
          clear x
          go_wp2_with fail
          (with_reducible refine (HF.out.xba.on _).mono ?_)
          rintro e w2 ⟨rfl, x⟩
          have X := hid (ext_trans X.out x)
          clear x
          go_wp2_with fail
          (with_reducible refine (HF.out.same.on _).mono ?_)
          rintro e w2 ⟨rfl, x⟩
          have X := hid (ext_trans X.out x)
          clear x
          go_wp2_with fail
          (with_reducible refine (HF.out.same.on _).mono ?_)
          rintro e w2 ⟨rfl, x⟩
          have X := hid (ext_trans X.out x)
          clear x
          go_wp2_with fail
          (with_reducible refine (HF.out.lowA.on _).mono ?_)
          rintro e w2 ⟨rfl, x⟩
          have X := hid (ext_trans X.out x)
          clear x
          go_wp2_with fail
          (with_reducible refine (HF.out.lowB.on _).mono ?_)
          rintro e w2 ⟨rfl, x⟩
          have X := hid (ext_trans X.out x)
          clear x
          go_wp2_with fail
          (with_reducible refine (HF.out.xbc.on _).mono ?_)
          rintro e w2 ⟨rfl, x⟩
          have X := hid (ext_trans X.out x)
          clear x
          go_wp2_with fail
          (with_reducible refine (HF.out.wac.on _).mono ?_)
          rintro e w2 ⟨rfl, x⟩
          have X := hid (ext_trans X.out x)
          clear x
          go_wp2_with fail
          (with_reducible refine (HF.out.wbc.on _).mono ?_)
          rintro e w2 ⟨rfl, x⟩
          have X := hid (ext_trans X.out x)
          clear x
          go_wp2_with fail
          (with_reducible refine (HF.out.wca.on _).mono ?_)
          rintro e w2 ⟨rfl, x⟩
          have X := hid (ext_trans X.out x)
          clear x
          go_wp2_with fail
          (with_reducible refine (HF.out.wcb.on _).mono ?_)
          rintro e w2 ⟨rfl, x⟩
          have X := hid (ext_trans X.out x)
          clear x
          go_wp2_with fail
          (with_reducible refine (HF.out.par.on _).mono ?_)
          rintro e w2 ⟨rfl, x⟩
          have X := hid (ext_trans X.out x)
          clear x
          go_wp2_with fail
          (with_reducible refine (HF.out.cntA.on _).mono ?_)
          rintro e w2 ⟨rfl, x⟩
          have X := hid (ext_trans X.out x)
          clear x
          go_wp2_with fail
          (with_reducible refine (HF.out.waa.on _).mono ?_)
          rintro e w2 ⟨rfl, x⟩
          have X := hid (ext_trans X.out x)
          clear x
          go_wp2_with fail
          (with_reducible refine (HF.out.wa0.on _).mono ?_)
          rintro e w2 ⟨rfl, x⟩
          have X := hid (ext_trans X.out x)
          clear x
          go_wp2_with fail
          (with_reducible refine (HF.out.wab.on _).mono ?_)
          rintro e w2 ⟨rfl, x⟩
          have X := hid (ext_trans X.out x)
          clear x
          go_wp2_with fail
          go_ret
          exact ⟨rfl, X.out⟩
    · by_cases hz : z ≤ 0
      · have hu := zu (by decide) hz
        have y1 : decide (z ≤ 0) = true := by rw [decide_eq_true_iff]; exact hz
        have y2 : decide (0 < u) = false := by rw [decide_eq_false_iff_not]; omega
        clear hu hz zu eqs ahead hlow
        rcases cnt with ⟨rfl, rfl⟩ | ⟨rfl, rfl⟩
        · have y3 : decide ((0 : Int) < (np : Int) + 1) = true := by rw [decide_eq_true_iff]; omega
          have y3' : decide ((0 : Int) < ((np + 1 : Nat) : Int)) = true := by rw [decide_eq_true_iff]; omega
          go_enter Try.func6, Try.ntmps6
          have X := hid (ext_refl w)
          go_wp2_with fail
          (with_reducible refine (awake_in _).mono ?_)
          rintro e w2 ⟨rfl, x⟩
          have X := hid (ext_trans X.out x)
          clear x
          go_wp2_with fail
          (with_reducible refine (HF.out.cA.on _).mono ?_)
          rintro e w2 ⟨rfl, x⟩
          have X := hid (ext_trans X.out x)
          clear x
          go_wp2_with fail
          (with_reducible refine (HF.out.cB.on _).mono ?_)
          rintro e w2 ⟨rfl, x⟩
          have X := hid (ext_trans X.out x)
          clear x
          go_wp2_with fail
          (with_reducible refine (HF.out.cC.on _).mono ?_)
          rintro e w2 ⟨rfl, x⟩
          have X := hid (ext_trans X.out x)
          clear x
          go_wp2_with fail
          (with_reducible refine (HF.out.xab.on _).mono ?_)
          rintro e w2 ⟨rfl, x⟩
          have X := hid (ext_trans X.out x)
          clear x
          go_wp2_with fail
          (with_reducible refine (HF.out.xba.on _).mono ?_)
          rintro e w2 ⟨rfl, x⟩
          have X := hid (ext_trans X.out x)
          clear x
          go_wp2_with fail
          (with_reducible refine (HF.out.same.on _).mono ?_)
          rintro e w2 ⟨rfl, x⟩
          have X := hid (ext_trans X.out x)
          clear x
          go_wp2_with fail
          (with_reducible refine (HF.out.same.on _).mono ?_)
          rintro e w2 ⟨rfl, x⟩
          have X := hid (ext_trans X.out x)
          clear x
          go_wp2_with fail
          (with_reducible refine (HF.out.lowA.on _).mono ?_)
          rintro e w2 ⟨rfl, x⟩
          have X := hid (ext_trans X.out x)
          clear x
          go_wp2_with fail
          (with_reducible refine (HF.out.lowB.on _).mono ?_)
          rintro e w2 ⟨rfl, x⟩
          have X := hid (ext_trans X.out x)
          clear x
          go_wp2_with fail
          (with_reducible refine (HF.out.xbc.on _).mono ?_)
          rintro e w2 ⟨rfl, x⟩
          have X := hid (ext_trans X.out x)
          clear x
          go_wp2_with fail
          (with_reducible refine (HF.out.xac.on _).mono ?_)
          rintro e w2 ⟨rfl, x⟩
          have X := hid (ext_trans X.out x)
          clear x
          go_wp2_with fail
          (with_reducible refine (HF.out.wac.on _).mono ?_)
          rintro e w2 ⟨rfl, x⟩
          have X := hid (ext_trans X.out x)
          clear x
          go_wp2_with fail
          (with_reducible refine (HF.out.wbc.on _).mono ?_)
          rintro e w2 ⟨rfl, x⟩
          have X := hid (ext_trans X.out x)
          clear x
          go_wp2_with fail
          (with_reducible refine (HF.out.wca.on _).mono ?_)
          rintro e w2 ⟨rfl, x⟩
          have X := hid (ext_trans X.out x)
          clear x
          go_wp2_with fail
          (with_reducible refine (HF.out.wcb.on _).mono ?_)
          rintro e w2 ⟨rfl, x⟩
          have X := hid (ext_trans X.out x)
          clear x
          go_wp2_with fail
          (with_reducible refine (HF.out.par.on _).mono ?_)
          rintro e w2 ⟨rfl, x⟩
          have X := hid (ext_trans X.out x)
          clear x
          go_wp2_with fail
          (with_reducible refine (HF.out.cntA.on _).mono ?_)
          rintro e w2 ⟨rfl, x⟩
          have X := hid (ext_trans X.out x)
          clear x
          go_wp2_with fail
          (with_reducible refine (HF.out.wap.on _).mono ?_)
          rintro e w2 ⟨rfl, x⟩
          have X := hid (ext_trans X.out x)
          clear x
          go_wp2_with fail
          (with_reducible refine (HF.out.cntP.on _).mono ?_)
          rintro e w2 ⟨rfl, x⟩
          have X := hid (ext_trans X.out x)
          clear x
          go_wp2_with fail
          (with_reducible refine (HF.out.cntA.on _).mono ?_)
          rintro e w2 ⟨rfl, x⟩
          have X := hid (ext_trans X.out x)
          clear x
          go_wp2_with fail
          (with_reducible refine ((HF.out.wpa rfl).on _).mono ?_)
          rintro e w2 ⟨rfl, x⟩
          have X := hid (ext_trans X.out x)
          clear x
          go_wp2_with fail
          (with_reducible refine (HF.out.waa.on _).mono ?_)
          rintro e w2 ⟨rfl, x⟩
          have X := hid (ext_trans X.out x)
          clear x
          go_wp2_with fail
          (with_reducible refine (HF.out.wa0.on _).mono ?_)
          rintro e w2 ⟨rfl, x⟩
          have X := hid (ext_trans X.out x)
          clear x
          go_wp2_with fail
          (with_reducible refine (HF.out.wab.on _).mono ?_)
          rintro e w2 ⟨rfl, x⟩
          have X := hid (ext_trans X.out x)
          clear x
          go_wp2_with fail
          go_ret
          exact ⟨rfl, X.out⟩
        · go_enter Try.func6, Try.ntmps6
          have X := hid (ext_refl w)
          go_wp2_with fail
          (with_reducible refine (awake_in _).mono ?_)
          rintro e w2 ⟨rfl, x⟩
          have X := hid (ext_trans X.out x)
          clear x
          go_wp2_with fail
          (with_reducible refine (HF.out.cA.on _).mono ?_)
          rintro e w2 ⟨rfl, x⟩
          have X := hid (ext_trans X.out x)
          clear x
          go_wp2_with fail
          (with_reducible refine (HF.out.cB.on _).mono ?_)
          rintro e w2 ⟨rfl, x⟩
          have X := hid (ext_trans X.out x)
          clear x
          go_wp2_with fail
          (with_reducible refine (HF.out.cC.on _).mono ?_)
          rintro e w2 ⟨rfl, x⟩
          have X := hid (ext_trans X.out x)
          clear x
          go_wp2_with fail
          (with_reducible refine (HF.out.xab.on _).mono ?_)
          rintro e w2 ⟨rfl, x⟩
          have X := hid (ext_trans X.out x)
          clear x
          go_wp2_with fail
          (with_reducible refine (HF.out.xba.on _).mono ?_)
          rintro e w2 ⟨rfl, x⟩
          have X := hid (ext_trans X.out x)
          clear x
          go_wp2_with fail
          (with_reducible refine (HF.out.same.on _).mono ?_)
          rintro e w2 ⟨rfl, x⟩
          have X := hid (ext_trans X.out x)
          clear x
          go_wp2_with fail
          (with_reducible refine (HF.out.same.on _).mono ?_)
          rintro e w2 ⟨rfl, x⟩
          have X := hid (ext_trans X.out x)
          clear x
          go_wp2_with fail
          (with_reducible refine (HF.out.lowA.on _).mono ?_)
          rintro e w2 ⟨rfl, x⟩
          have X := hid (ext_trans X.out x)
          clear x
          go_wp2_with fail
          (with_reducible refine (HF.out.lowB.on _).mono ?_)
          rintro e w2 ⟨rfl, x⟩
          have X := hid (ext_trans X.out x)
          clear x
          go_wp2_with fail
          (with_reducible refine (HF.out.xbc.on _).mono ?_)
          rintro e w2 ⟨rfl, x⟩
          have X := hid (ext_trans X.out x)
          clear x
          go_wp2_with fail
          (with_reducible refine (HF.out.xac.on _).mono ?_)
          rintro e w2 ⟨rfl, x⟩
          have X := hid (ext_trans X.out x)
          clear x
          go_wp2_with fail
          (with_reducible refine (HF.out.wac.on _).mono ?_)
          rintro e w2 ⟨rfl, x⟩
          have X := hid (ext_trans X.out x)
          clear x
          go_wp2_with fail
          (with_reducible refine (HF.out.wbc.on _).mono ?_)
          rintro e w2 ⟨rfl, x⟩
          have X := hid (ext_trans X.out x)
          clear x
          go_wp2_with fail
          (with_reducible refine (HF.out.wca.on _).mono ?_)
          rintro e w2 ⟨rfl, x⟩
          have X := hid (ext_trans X.out x)
          clear x
          go_wp2_with fail
          (with_reducible refine (HF.out.wcb.on _).mono ?_)
          rintro e w2 ⟨rfl, x⟩
          have X := hid (ext_trans X.out x)
          clear x
          go_wp2_with fail
          (with_reducible refine (HF.out.par.on _).mono ?_)
          rintro e w2 ⟨rfl, x⟩
          have X := hid (ext_trans X.out x)
          clear x
          go_wp2_with fail
          (with_reducible refine (HF.out.cntA.on _).mono ?_)
          rintro e w2 ⟨rfl, x⟩
          have X := hid (ext_trans X.out x)
          clear x
          go_wp2_with fail
          (with_reducible refine (HF.out.waa.on _).mono ?_)
          rintro e w2 ⟨rfl, x⟩
          have X := hid (ext_trans X.out x)
          clear x
          go_wp2_with fail
          (with_reducible refine (HF.out.wa0.on _).mono ?_)
          rintro e w2 ⟨rfl, x⟩
          have X := hid (ext_trans X.out x)
          clear x
          go_wp2_with fail
          (with_reducible refine (HF.out.wab.on _).mono ?_)
          rintro e w2 ⟨rfl, x⟩
          have X := hid (ext_trans X.out x)
          clear x
          go_wp2_with fail
          go_ret
          exact ⟨rfl, X.out⟩
      · have y1 : decide (z ≤ 0) = false := by rw [decide_eq_false_iff_not]; exact hz
        clear hz zu eqs ahead hlow
        rcases cnt with ⟨rfl, rfl⟩ | ⟨rfl, rfl⟩
        · have y3 : decide ((0 : Int) < (np : Int) + 1) = true := by rw [decide_eq_true_iff]; omega
          have y3' : decide ((0 : Int) < ((np + 1 : Nat) : Int)) = true := by rw [decide_eq_true_iff]; omega
          go_enter Try.func6, Try.ntmps6
          have X := hid (ext_refl w)
          go_wp2_with fail
          (with_reducible refine (awake_in _).mono ?_)
          rintro e w2 ⟨rfl, x⟩
          have X := hid (ext_trans X.out x)
          clear x
          go_wp2_with fail
          (with_reducible refine (HF.out.cA.on _).mono ?_)
          rintro e w2 ⟨rfl, x⟩
          have X := hid (ext_trans X.out x)
          clear x
          go_wp2_with fail
          (with_reducible refine (HF.out.cB.on _).mono ?_)
          rintro e w2 ⟨rfl, x⟩
          have X := hid (ext_trans X.out x)
          clear x
          go_wp2_with fail
          (with_reducible refine (HF.out.cC.on _).mono ?_)
          rintro e w2 ⟨rfl, x⟩
          have X := hid (ext_trans X.out x)
          clear x
          go_wp2_with fail
          (with_reducible refine (HF.out.xab.on _).mono ?_)
          rintro e w2 ⟨rfl, x⟩
          have X := hid (ext_trans X.out x)
          clear x
          go_wp2_with fail
          (with_reducible refine (HF.out.xba.on _).mono ?_)
          rintro e w2 ⟨rfl, x⟩
          have X := hid (ext_trans X.out x)
          clear x
          go_wp2_with fail
          (with_reducible refine (HF.out.same.on _).mono ?_)
          rintro e w2 ⟨rfl, x⟩
          have X := hid (ext_trans X.out x)
          clear x
          go_wp2_with fail
          (with_reducible refine (HF.out.same.on _).mono ?_)
          rintro e w2 ⟨rfl, x⟩
          have X := hid (ext_trans X.out x)
          clear x
          go_wp2_with fail
          (with_reducible refine (HF.out.lowA.on _).mono ?_)
          rintro e w2 ⟨rfl, x⟩
          have X := hid (ext_trans X.out x)
          clear x
          go_wp2_with fail
          (with_reducible refine (HF.out.lowB.on _).mono ?_)
          rintro e w2 ⟨rfl, x⟩
          have X := hid (ext_trans X.out x)
          clear x
          go_wp2_with fail
          (with_reducible refine (HF.out.xbc.on _).mono ?_)
          rintro e w2 ⟨rfl, x⟩
          have X := hid (ext_trans X.out x)
          clear x
          go_wp2_with fail
          (with_reducible refine (HF.out.wac.on _).mono ?_)
          rintro e w2 ⟨rfl, x⟩
          have X := hid (ext_trans X.out x)
          clear x
          go_wp2_with fail
          (with_reducible refine (HF.out.wbc.on _).mono ?_)
          rintro e w2 ⟨rfl, x⟩
          have X := hid (ext_trans X.out x)
          clear x
          go_wp2_with fail
          (with_reducible refine (HF.out.wca.on _).mono ?_)
          rintro e w2 ⟨rfl, x⟩
          have X := hid (ext_trans X.out x)
          clear x
          go_wp2_with fail
          (with_reducible refine (HF.out.wcb.on _).mono ?_)
          rintro e w2 ⟨rfl, x⟩
          have X := hid (ext_trans X.out x)
          clear x
          go_wp2_with fail
          (with_reducible refine (HF.out.par.on _).mono ?_)
          rintro e w2 ⟨rfl, x⟩
          have X := hid (ext_trans X.out x)
          clear x
          go_wp2_with fail
          (with_reducible refine (HF.out.cntA.on _).mono ?_)
          rintro e w2 ⟨rfl, x⟩
          have X := hid (ext_trans X.out x)
          clear x
          go_wp2_with fail
          (with_reducible refine (HF.out.wap.on _).mono ?_)
          rintro e w2 ⟨rfl, x⟩
          have X := hid (ext_trans X.out x)
          clear x
          go_wp2_with fail
          (with_reducible refine (HF.out.cntP.on _).mono ?_)
          rintro e w2 ⟨rfl, x⟩
          have X := hid (ext_trans X.out x)
          clear x
          go_wp2_with fail
          (with_reducible refine (HF.out.cntA.on _).mono ?_)
          rintro e w2 ⟨rfl, x⟩
          have X := hid (ext_trans X.out x)
          clear x
          go_wp2_with fail
          (with_reducible refine ((HF.out.wpa rfl).on _).mono ?_)
          rintro e w2 ⟨rfl, x⟩
          have X := hid (ext_trans X.out x)
          clear x
          go_wp2_with fail
          (with_reducible refine (HF.out.waa.on _).mono ?_)
          rintro e w2 ⟨rfl, x⟩
          have X := hid (ext_trans X.out x)
          clear x
          go_wp2_with fail
          (with_reducible refine (HF.out.wa0.on _).mono ?_)
          rintro e w2 ⟨rfl, x⟩
          have X := hid (ext_trans X.out x)
          clear x
          go_wp2_with fail
          (with_reducible refine (HF.out.wab.on _).mono ?_)
          rintro e w2 ⟨rfl, x⟩
          have X := hid (ext_trans X.out x)
          clear x
          go_wp2_with fail
          go_ret
          exact ⟨rfl, X.out⟩
        · go_enter Try.func6, Try.ntmps6
          have X := hid (ext_refl w)
          go_wp2_with fail
          (with_reducible refine (awake_in _).mono ?_)
          rintro e w2 ⟨rfl, x⟩
          have X := hid (ext_trans X.out x)
          clear x
          go_wp2_with fail
          (with_reducible refine (HF.out.cA.on _).mono ?_)
          rintro e w2 ⟨rfl, x⟩
          have X := hid (ext_trans X.out x)
          clear x
          go_wp2_with fail
          (with_reducible refine (HF.out.cB.on _).mono ?_)
          rintro e w2 ⟨rfl, x⟩
          have X := hid (ext_trans X.out x)
          clear x
          go_wp2_with fail
          (with_reducible refine (HF.out.cC.on _).mono ?_)
          rintro e w2 ⟨rfl, x⟩
          have X := hid (ext_trans X.out x)
          clear x
          go_wp2_with fail
          (with_reducible refine (HF.out.xab.on _).mono ?_)
          rintro e w2 ⟨rfl, x⟩
          have X := hid (ext_trans X.out x)
          clear x
          go_wp2_with fail
          (with_reducible refine (HF.out.xba.on _).mono ?_)
          rintro e w2 ⟨rfl, x⟩
          have X := hid (ext_trans X.out x)
          clear x
          go_wp2_with fail
          (with_reducible refine (HF.out.same.on _).mono ?_)
          rintro e w2 ⟨rfl, x⟩
          have X := hid (ext_trans X.out x)
          clear x
          go_wp2_with fail
          (with_reducible refine (HF.out.same.on _).mono ?_)
          rintro e w2 ⟨rfl, x⟩
          have X := hid (ext_trans X.out x)
          clear x
          go_wp2_with fail
          (with_reducible refine (HF.out.lowA.on _).mono ?_)
          rintro e w2 ⟨rfl, x⟩
          have X := hid (ext_trans X.out x)
          clear x
          go_wp2_with fail
          (with_reducible refine (HF.out.lowB.on _).mono ?_)
          rintro e w2 ⟨rfl, x⟩
          have X := hid (ext_trans X.out x)
          clear x
          go_wp2_with fail
          (with_reducible refine (HF.out.xbc.on _).mono ?_)
          rintro e w2 ⟨rfl, x⟩
          have X := hid (ext_trans X.out x)
          clear x
          go_wp2_with fail
          (with_reducible refine (HF.out.wac.on _).mono ?_)
          rintro e w2 ⟨rfl, x⟩
          have X := hid (ext_trans X.out x)
          clear x
          go_wp2_with fail
          (with_reducible refine (HF.out.wbc.on _).mono ?_)
          rintro e w2 ⟨rfl, x⟩
          have X := hid (ext_trans X.out x)
          clear x
          go_wp2_with fail
          (with_reducible refine (HF.out.wca.on _).mono ?_)
          rintro e w2 ⟨rfl, x⟩
          have X := hid (ext_trans X.out x)
          clear x
          go_wp2_with fail
          (with_reducible refine (HF.out.wcb.on _).mono ?_)
          rintro e w2 ⟨rfl, x⟩
          have X := hid (ext_trans X.out x)
          clear x
          go_wp2_with fail
          (with_reducible refine (HF.out.par.on _).mono ?_)
          rintro e w2 ⟨rfl, x⟩
          have X := hid (ext_trans X.out x)
          clear x
          go_wp2_with fail
          (with_reducible refine (HF.out.cntA.on _).mono ?_)
          rintro e w2 ⟨rfl, x⟩
          have X := hid (ext_trans X.out x)
          clear x
          go_wp2_with fail
          (with_reducible refine (HF.out.waa.on _).mono ?_)
          rintro e w2 ⟨rfl, x⟩
          have X := hid (ext_trans X.out x)
          clear x
          go_wp2_with fail
          (with_reducible refine (HF.out.wa0.on _).mono ?_)
          rintro e w2 ⟨rfl, x⟩
          have X := hid (ext_trans X.out x)
          clear x
          go_wp2_with fail
          (with_reducible refine (HF.out.wab.on _).mono ?_)
          rintro e w2 ⟨rfl, x⟩
          have X := hid (ext_trans X.out x)
          clear x
          go_wp2_with fail
          go_ret
          exact ⟨rfl, X.out⟩
  · have el : (la.toList == lb.toList) = false := hlow
    rcases vab with _ | _
    · clear zu eqs ahead hlow
      rcases cnt with ⟨rfl, rfl⟩ | ⟨rfl, rfl⟩
      · have y3 : decide ((0 : Int) < (np : Int) + 1) = true := by rw [decide_eq_true_iff]; omega
        have y3' : decide ((0 : Int) < ((np + 1 : Nat) : Int)) = true := by rw [decide_eq_true_iff]; omega
        go_enter Try.func6, Try.ntmps6
        have X := hid (ext_refl w)
        go_wp2_with fail
        (with_reducible refine (awake_in _).mono ?_)
        rintro e w2 ⟨rfl, x⟩
        have X := hid (ext_trans X.out x)
        clear x
        go_wp2_with fail
        (with_reducible refine (HF.out.cA.on _).mono ?_)
        rintro e w2 ⟨rfl, x⟩
        have X := hid (ext_trans X.out x)
        clear x
        go_wp2_with fail
        (with_reducible refine (HF.out.cB.on _).mono ?_)
        rintro e w2 ⟨rfl, x⟩
        have X := hid (ext_trans X.out x)
        clear x
        go_wp2_with fail
        (with_reducible refine (HF.out.cC.on _).mono ?_)
        rintro e w2 ⟨rfl, x⟩
        have X := hid (ext_trans X.out x)
        clear x
        go_wp2_with fail
        (with_reducible refine (HF.out.xab.on _).mono ?_)
        rintro e w2 ⟨rfl, x⟩
        have X := hid (ext_trans X.out x)
        clear x
        go_wp2_with fail
        (with_reducible refine (HF.out.xba.on _).mono ?_)
        rintro e w2 ⟨rfl, x⟩
        have X := hid (ext_trans X.out x)
        clear x
        go_wp2_with fail
        (with_reducible refine (HF.out.same.on _).mono ?_)
        rintro e w2 ⟨rfl, x⟩
        have X := hid (ext_trans X.out x)
        clear x
        go_wp2_with fail
        (with_reducible refine (HF.out.same.on _).mono ?_)
        rintro e w2 ⟨rfl, x⟩
        have X := hid (ext_trans X.out x)
        clear x
        go_wp2_with fail
        (with_reducible refine (HF.out.lowA.on _).mono ?_)
        rintro e w2 ⟨rfl, x⟩
        have X := hid (ext_trans X.out x)
        clear x
        go_wp2_with fail
        (with_reducible refine (HF.out.lowB.on _).mono ?_)
        rintro e w2 ⟨rfl, x⟩
        have X := hid (ext_trans X.out x)
        clear x
        go_wp2_with fail
        (with_reducible refine (HF.out.par.on _).mono ?_)
        rintro e w2 ⟨rfl, x⟩
        have X := hid (ext_trans X.out x)
        clear x
        go_wp2_with fail
        (with_reducible refine (HF.out.cntA.on _).mono ?_)
        rintro e w2 ⟨rfl, x⟩
        have X := hid (ext_trans X.out x)
        clear x
        go_wp2_with fail
        (with_reducible refine (HF.out.wap.on _).mono ?_)
        rintro e w2 ⟨rfl, x⟩
        have X := hid (ext_trans X.out x)
        clear x
        go_wp2_with fail
        (with_reducible refine (HF.out.cntP.on _).mono ?_)
        rintro e w2 ⟨rfl, x⟩
        have X := hid (ext_trans X.out x)
        clear x
        go_wp2_with fail
        (with_reducible refine (HF.out.cntA.on _).mono ?_)
        rintro e w2 ⟨rfl, x⟩
        have X := hid (ext_trans X.out x)
        clear x
        go_wp2_with fail
        (with_reducible refine ((HF.out.wpa rfl).on _).mono ?_)
        rintro e w2 ⟨rfl, x⟩
        have X := hid (ext_trans X.out x)
        clear x
        go_wp2_with fail
        (with_reducible refine (HF.out.waa.on _).mono ?_)
        rintro e w2 ⟨rfl, x⟩
        have X := hid (ext_trans X.out x)
        clear x
        go_wp2_with fail
        (with_reducible refine (HF.out.wa0.on _).mono ?_)
        rintro e w2 ⟨rfl, x⟩
        have X := hid (ext_trans X.out x)
        clear x
        go_wp2_with fail
        (with_reducible refine (HF.out.wab.on _).mono ?_)
        rintro e w2 ⟨rfl, x⟩
        have X := hid (ext_trans X.out x)
        clear x
        go_wp2_with fail
        go_ret
        exact ⟨rfl, X.out⟩
      · go_enter Try.func6, Try.ntmps6
        have X := hid (ext_refl w)
        go_wp2_with fail
        (with_reducible refine (awake_in _).mono ?_)
        rintro e w2 ⟨rfl, x⟩
        have X := hid (ext_trans X.out x)
        clear x
        go_wp2_with fail
        (with_reducible refine (HF.out.cA.on _).mono ?_)
        rintro e w2 ⟨rfl, x⟩
        have X := hid (ext_trans X.out x)
        clear x
        go_wp2_with fail
        (with_reducible refine (HF.out.cB.on _).mono ?_)
        rintro e w2 ⟨rfl, x⟩
        have X := hid (ext_trans X.out x)
        clear x
        go_wp2_with fail
        (with_reducible refine (HF.out.cC.on _).mono ?_)
        rintro e w2 ⟨rfl, x⟩
        have X := hid (ext_trans X.out x)
        clear x
        go_wp2_with fail
        (with_reducible refine (HF.out.xab.on _).mono ?_)
        rintro e w2 ⟨rfl, x⟩
        have X := hid (ext_trans X.out x)
        clear x
        go_wp2_with fail
        (with_reducible refine (HF.out.xba.on _).mono ?_)
        rintro e w2 ⟨rfl, x⟩
        have X := hid (ext_trans X.out x)
        clear x
        go_wp2_with fail
        (with_reducible refine (HF.out.same.on _).mono ?_)
        rintro e w2 ⟨rfl, x⟩
        have X := hid (ext_trans X.out x)
        clear x
        go_wp2_with fail
        (with_reducible refine (HF.out.same.on _).mono ?_)
        rintro e w2 ⟨rfl, x⟩
        have X := hid (ext_trans X.out x)
        clear x
        go_wp2_with fail
        (with_reducible refine (HF.out.lowA.on _).mono ?_)
        rintro e w2 ⟨rfl, x⟩
        have X := hid (ext_trans X.out x)
        clear x
        go_wp2_with fail
        (with_reducible refine (HF.out.lowB.on _).mono ?_)
        rintro e w2 ⟨rfl, x⟩
        have X := hid (ext_trans X.out x)
        clear x
        go_wp2_with fail
        (with_reducible refine (HF.out.par.on _).mono ?_)
        rintro e w2 ⟨rfl, x⟩
        have X := hid (ext_trans X.out x)
        clear x
        go_wp2_with fail
        (with_reducible refine (HF.out.cntA.on _).mono ?_)
        rintro e w2 ⟨rfl, x⟩
        have X := hid (ext_trans X.out x)
        clear x
        go_wp2_with fail
        (with_reducible refine (HF.out.waa.on _).mono ?_)
        rintro e w2 ⟨rfl, x⟩
        have X := hid (ext_trans X.out x)
        clear x
        go_wp2_with fail
        (with_reducible refine (HF.out.wa0.on _).mono ?_)
        rintro e w2 ⟨rfl, x⟩
        have X := hid (ext_trans X.out x)
        clear x
        go_wp2_with fail
        (with_reducible refine (HF.out.wab.on _).mono ?_)
        rintro e w2 ⟨rfl, x⟩
        have X := hid (ext_trans X.out x)
        clear x
        go_wp2_with fail
        go_ret
        exact ⟨rfl, X.out⟩
    · clear zu eqs ahead hlow
      rcases cnt with ⟨rfl, rfl⟩ | ⟨rfl, rfl⟩
      · have y3 : decide ((0 : Int) < (np : Int) + 1) = true := by rw [decide_eq_true_iff]; omega
        have y3' : decide ((0 : Int) < ((np + 1 : Nat) : Int)) = true := by rw [decide_eq_true_iff]; omega
        go_enter Try.func6, Try.ntmps6
        have X := hid (ext_refl w)
        go_wp2_with fail
        (with_reducible refine (awake_in _).mono ?_)
        rintro e w2 ⟨rfl, x⟩
        have X := hid (ext_trans X.out x)
        clear x
        go_wp2_with fail
        (with_reducible refine (HF.out.cA.on _).mono ?_)
        rintro e w2 ⟨rfl, x⟩
        have X := hid (ext_trans X.out x)
        clear x
        go_wp2_with fail
        (with_reducible refine (HF.out.cB.on _).mono ?_)
        rintro e w2 ⟨rfl, x⟩
        have X := hid (ext_trans X.out x)
        clear x
        go_wp2_with fail
        (with_reducible refine (HF.out.cC.on _).mono ?_)
        rintro e w2 ⟨rfl, x⟩
        have X := hid (ext_trans X.out x)
        clear x
        go_wp2_with fail
        (with_reducible refine (HF.out.xab.on _).mono ?_)
        rintro e w2 ⟨rfl, x⟩
        have X := hid (ext_trans X.out x)
        clear x
        go_wp2_with fail
        (with_reducible refine (HF.out.xba.on _).mono ?_)
        rintro e w2 ⟨rfl, x⟩
        have X := hid (ext_trans X.out x)
        clear x
        go_wp2_with fail
        (with_reducible refine (HF.out.same.on _).mono ?_)
        rintro e w2 ⟨rfl, x⟩
        have X := hid (ext_trans X.out x)
        clear x
        go_wp2_with fail
        (with_reducible refine (HF.out.same.on _).mono ?_)
        rintro e w2 ⟨rfl, x⟩
        have X := hid (ext_trans X.out x)
        clear x
        go_wp2_with fail
        (with_reducible refine (HF.out.lowA.on _).mono ?_)
        rintro e w2 ⟨rfl, x⟩
        have X := hid (ext_trans X.out x)
        clear x
        go_wp2_with fail
        (with_reducible refine (HF.out.lowB.on _).mono ?_)
        rintro e w2 ⟨rfl, x⟩
        have X := hid (ext_trans X.out x)
        clear x
        go_wp2_with fail
        (with_reducible refine (HF.out.par.on _).mono ?_)
        rintro e w2 ⟨rfl, x⟩
        have X := hid (ext_trans X.out x)
        clear x
        go_wp2_with fail
        (with_reducible refine (HF.out.cntA.on _).mono ?_)
        rintro e w2 ⟨rfl, x⟩
        have X := hid (ext_trans X.out x)
        clear x
        go_wp2_with fail
        (with_reducible refine (HF.out.wap.on _).mono ?_)
        rintro e w2 ⟨rfl, x⟩
        have X := hid (ext_trans X.out x)
        clear x
        go_wp2_with fail
        (with_reducible refine (HF.out.cntP.on _).mono ?_)
        rintro e w2 ⟨rfl, x⟩
        have X := hid (ext_trans X.out x)
        clear x
        go_wp2_with fail
        (with_reducible refine (HF.out.cntA.on _).mono ?_)
        rintro e w2 ⟨rfl, x⟩
        have X := hid (ext_trans X.out x)
        clear x
        go_wp2_with fail
        (with_reducible refine ((HF.out.wpa rfl).on _).mono ?_)
        rintro e w2 ⟨rfl, x⟩
        have X := hid (ext_trans X.out x)
        clear x
        go_wp2_with fail
        (with_reducible refine (HF.out.waa.on _).mono ?_)
        rintro e w2 ⟨rfl, x⟩
        have X := hid (ext_trans X.out x)
        clear x
        go_wp2_with fail
        (with_reducible refine (HF.out.wa0.on _).mono ?_)
        rintro e w2 ⟨rfl, x⟩
        have X := hid (ext_trans X.out x)
        clear x
        go_wp2_with fail
        (with_reducible refine (HF.out.wab.on _).mono ?_)
        rintro e w2 ⟨rfl, x⟩
        have X := hid (ext_trans X.out x)
        clear x
        go_wp2_with fail
        go_ret
        exact ⟨rfl, X.out⟩
      · go_enter Try.func6, Try.ntmps6
        have X := hid (ext_refl w)
        go_wp2_with fail
        (with_reducible refine (awake_in _).mono ?_)
        rintro e w2 ⟨rfl, x⟩
        have X := hid (ext_trans X.out x)
        clear x
        go_wp2_with fail
        (with_reducible refine (HF.out.cA.on _).mono ?_)
        rintro e w2 ⟨rfl, x⟩
        have X := hid (ext_trans X.out x)
        clear x
        go_wp2_with fail
        (with_reducible refine (HF.out.cB.on _).mono ?_)
        rintro e w2 ⟨rfl, x⟩
        have X := hid (ext_trans X.out x)
        clear x
        go_wp2_with fail
        (with_reducible refine (HF.out.cC.on _).mono ?_)
        rintro e w2 ⟨rfl, x⟩
        have X := hid (ext_trans X.out x)
        clear x
        go_wp2_with fail
        (with_reducible refine (HF.out.xab.on _).mono ?_)
        rintro e w2 ⟨rfl, x⟩
        have X := hid (ext_trans X.out x)
        clear x
        go_wp2_with fail
        (with_reducible refine (HF.out.xba.on _).mono ?_)
        rintro e w2 ⟨rfl, x⟩
        have X := hid (ext_trans X.out x)
        clear x
        go_wp2_with fail
        (with_reducible refine (HF.out.same.on _).mono ?_)
        rintro e w2 ⟨rfl, x⟩
        have X := hid (ext_trans X.out x)
        clear x
        go_wp2_with fail
        (with_reducible refine (HF.out.same.on _).mono ?_)
        rintro e w2 ⟨rfl, x⟩
        have X := hid (ext_trans X.out x)
        clear x
        go_wp2_with fail
        (with_reducible refine (HF.out.lowA.on _).mono ?_)
        rintro e w2 ⟨rfl, x⟩
        have X := hid (ext_trans X.out x)
        clear x
        go_wp2_with fail
        (with_reducible refine (HF.out.lowB.on _).mono ?_)
        rintro e w2 ⟨rfl, x⟩
        have X := hid (ext_trans X.out x)
        clear x
        go_wp2_with fail
        (with_reducible refine (HF.out.par.on _).mono ?_)
        rintro e w2 ⟨rfl, x⟩
        have X := hid (ext_trans X.out x)
        clear x
        go_wp2_with fail
        (with_reducible refine (HF.out.cntA.on _).mono ?_)
        rintro e w2 ⟨rfl, x⟩
        have X := hid (ext_trans X.out x)
        clear x
        go_wp2_with fail
        (with_reducible refine (HF.out.waa.on _).mono ?_)
        rintro e w2 ⟨rfl, x⟩
        have X := hid (ext_trans X.out x)
        clear x
        go_wp2_with fail
        (with_reducible refine (HF.out.wa0.on _).mono ?_)
        rintro e w2 ⟨rfl, x⟩
        have X := hid (ext_trans X.out x)
        clear x
        go_wp2_with fail
        (with_reducible refine (HF.out.wab.on _).mono ?_)
        rintro e w2 ⟨rfl, x⟩
        have X := hid (ext_trans X.out x)
        clear x
        go_wp2_with fail
        go_ret
        exact ⟨rfl, X.out⟩
end Go.Proofs.Ytcgcadhnecakaaa

/- The law NameBack: the walk. -/
import Derived.Test.YtcgcadhnecakaaaBakA
import Derived.Test.YtcgcadhnecakaaaNamX
namespace Go.Proofs.Ytcgcadhnecakaaa
open Go.BK Go.RowKit Go.BK.NM
set_option linter.unusedVariables false

structure BackN (tn tt tc : ByteArray) (L : List Bs) (m : Nat) : Prop where
  cn : Tell 16 #[.string tn] (.int .i64 0)
  tx : Tell 33 #[.string tn] (.tuple #[.string tt, .int .i64 0])
  pt : Tell 34 #[.string tt] (.tuple #[.string tn, .agg #[.int .i64 0, .int .i64 0]])
  lb : ∀ W : World, Calls Try.prog 11 #[.string tn] W fun e w' => ∃ A c, e = .returned (.tuple #[.slice A L.length c, .int .i64 0]) ∧ OwnS w' W.heap.size A c L ∧ Ext W w'
  jn : ∀ (W : World) (A : Option Addr) (c : Nat), RdG W 1 A L.length c (L.map strV) → Calls Try.prog 13 #[.slice A L.length c] W fun e w' => e = .returned (.tuple #[.string tn, .int .i64 0]) ∧ Ext W w'
  ct : Tell 18 #[.string tn] (.int .i64 L.length)
  pc : L ≠ [] → Tell 34 #[.string tc] (.tuple #[.string tn, .agg #[.int .i64 0, .int .i64 0]])
  sz : tt.size = m + 1
  m9 : m ≤ 2000
  ll : L.length ≤ 255
  last : ∀ h : m < tt.size, tt[m]'h = 46
  cut : tt.extract 0 m = tc

structure BackBad (tx tm : ByteArray) (e : Int) (q : Nat) : Prop where
  px : Tell 34 #[.string tx] (.tuple #[.string tm, .agg #[.int .i64 e, .int .i64 q]])
  ne : e ≠ 0
  le : q ≤ tx.size
  nil : (tm.toList == []) = true
  nil' : tm.toList.isEmpty = true
structure BackGood (tx tm t2 : ByteArray) : Prop where
  px : Tell 34 #[.string tx] (.tuple #[.string tm, .agg #[.int .i64 0, .int .i64 0]])
  xt : Tell 33 #[.string tm] (.tuple #[.string t2, .int .i64 0])
  p2 : Tell 34 #[.string t2] (.tuple #[.string tm, .agg #[.int .i64 0, .int .i64 0]])
  ck : Tell 16 #[.string tm] (.int .i64 0)

set_option maxHeartbeats 16000000 in
set_option maxRecDepth 100000 in
theorem back_no_bad {tn tx tm : ByteArray} {E : Int} {e : Int} {q : Nat} (ka : tn.size ≤ 400) (kx : tx.size ≤ 1200) (CN : Tell 16 #[.string tn] (.int .i64 E)) (hE : E ≠ 0) (G : BackBad tx tm e q) (w : World) :
    Calls Try.prog 7 #[.string tn, .string tx] w fun e w' => e = .returned (.bool true) ∧ Below w.heap.size w w' := by
  have z1 : decide ((400 : Int) < (tn.size : Int)) = false := by rw [decide_eq_false_iff_not]; omega
  have z1' : decide (400 < tn.size) = false := by rw [decide_eq_false_iff_not]; omega
  have z2 : decide ((1200 : Int) < (tx.size : Int)) = false := by rw [decide_eq_false_iff_not]; omega
  have z2' : decide (1200 < tx.size) = false := by rw [decide_eq_false_iff_not]; omega
  have HC := hid CN
  have zE : (E == 0) = false := by simpa using hE
  clear CN hE
  have HG := hid G
  have ne := G.ne
  have le := G.le
  have nil := G.nil
  have nil' := G.nil'
  have e1 : (e != 0) = true := by simpa using ne
  have e2 : decide ((q : Int) ≤ (tx.size : Int)) = true := by rw [decide_eq_true_iff]; omega
  have e2' : decide (q ≤ tx.size) = true := by rw [decide_eq_true_iff]; omega
  clear G ne
  go_enter Try.func7, Try.ntmps7
  have X := hid (ext_refl w)
  go_wp2_with fail
  (with_reducible refine (awake_in _).mono ?_)
  rintro e w2 ⟨rfl, x⟩
  have X := hid (ext_trans X.out x)
  clear x
  go_wp2_with fail
  (with_reducible refine (HC.out.on _).mono ?_)
  rintro e w2 ⟨rfl, x⟩
  have X := hid (ext_trans X.out x)
  clear x
  go_wp2_with fail
  (with_reducible refine (HG.out.px.on _).mono ?_)
  rintro e w2 ⟨rfl, x⟩
  have X := hid (ext_trans (ext_trans X.out x) (ext_alloc w2 (.cells #[Value.int IntKind.i64 e, Value.int IntKind.i64 q] 45)))
  clear x
  go_wp2_with fail
  go_ret
  exact ⟨rfl, X.out⟩

set_option maxHeartbeats 16000000 in
set_option maxRecDepth 100000 in
theorem back_no_good {tn tx tm : ByteArray} {E : Int} {t2 : ByteArray} (ka : tn.size ≤ 400) (kx : tx.size ≤ 1200) (CN : Tell 16 #[.string tn] (.int .i64 E)) (hE : E ≠ 0) (G : BackGood tx tm t2) (w : World) :
    Calls Try.prog 7 #[.string tn, .string tx] w fun e w' => e = .returned (.bool true) ∧ Below w.heap.size w w' := by
  have z1 : decide ((400 : Int) < (tn.size : Int)) = false := by rw [decide_eq_false_iff_not]; omega
  have z1' : decide (400 < tn.size) = false := by rw [decide_eq_false_iff_not]; omega
  have z2 : decide ((1200 : Int) < (tx.size : Int)) = false := by rw [decide_eq_false_iff_not]; omega
  have z2' : decide (1200 < tx.size) = false := by rw [decide_eq_false_iff_not]; omega
  have HC := hid CN
  have zE : (E == 0) = false := by simpa using hE
  clear CN hE
  have HG := hid G
  have m1 : (tm.toList == tm.toList) = true := by simp
  clear G
  go_enter Try.func7, Try.ntmps7
  have X := hid (ext_refl w)
  go_wp2_with fail
  (with_reducible refine (awake_in _).mono ?_)
  rintro e w2 ⟨rfl, x⟩
  have X := hid (ext_trans X.out x)
  clear x
  go_wp2_with fail
  (with_reducible refine (HC.out.on _).mono ?_)
  rintro e w2 ⟨rfl, x⟩
  have X := hid (ext_trans X.out x)
  clear x
  go_wp2_with fail
  (with_reducible refine (HG.out.px.on _).mono ?_)
  rintro e w2 ⟨rfl, x⟩
  have X := hid (ext_trans (ext_trans X.out x) (ext_alloc w2 (.cells #[Value.int IntKind.i64 0, Value.int IntKind.i64 0] 45)))
  clear x
  go_wp2_with fail
  (with_reducible refine (HG.out.xt.on _).mono ?_)
  rintro e w2 ⟨rfl, x⟩
  have X := hid (ext_trans X.out x)
  clear x
  go_wp2_with fail
  (with_reducible refine (HG.out.p2.on _).mono ?_)
  rintro e w8 ⟨rfl, x⟩
  have X := hid (ext_trans (ext_trans X.out x) (ext_alloc w8 (.cells #[.int .i64 0, .int .i64 0] 45)))
  clear x
  go_wp2_with fail
  (with_reducible refine (HG.out.ck.on _).mono ?_)
  rintro e w9 ⟨rfl, x⟩
  obtain ⟨c1, c2, f1⟩ := ((Blk.new w8 45 #[.int .i64 0, .int .i64 0]).ext x).two
  have X := hid (ext_trans X.out x)
  clear x
  go_wp2_with fail
  go_ret
  exact ⟨rfl, X.out⟩

set_option maxHeartbeats 16000000 in
set_option maxRecDepth 100000 in
theorem back_root_bad {tn tx tm : ByteArray} {tt tc : ByteArray} {L : List Bs} {m : Nat} {e : Int} {q : Nat} (ka : tn.size ≤ 400) (kx : tx.size ≤ 1200) (F : BackN tn tt tc L m) (hL : L = []) (G : BackBad tx tm e q) (w : World) :
    Calls Try.prog 7 #[.string tn, .string tx] w fun e w' => e = .returned (.bool true) ∧ Below w.heap.size w w' := by
  have z1 : decide ((400 : Int) < (tn.size : Int)) = false := by rw [decide_eq_false_iff_not]; omega
  have z1' : decide (400 < tn.size) = false := by rw [decide_eq_false_iff_not]; omega
  have z2 : decide ((1200 : Int) < (tx.size : Int)) = false := by rw [decide_eq_false_iff_not]; omega
  have z2' : decide (1200 < tx.size) = false := by rw [decide_eq_false_iff_not]; omega
  have HF := hid F
  have sz := F.sz
  have m9 := F.m9
  have ll := F.ll
  have hm : m < tt.size := by omega
  have b0 := F.last hm
  have hcut := F.cut
  have q1 : (tt.size : Int) - 1 = (m : Int) := by omega
  have q2 : ((tt.size : Int) == 0) = false := by rw [beq_eq_false_iff_ne]; omega
  have q3 : (m : Int) < (tt.size : Int) := by omega
  have tt9 : tt.size ≤ 3000 := by omega
  have n1 : (tn.toList != tn.toList) = false := by simp
  have n1' : (tn.toList == tn.toList) = true := by simp
  have l1 : ((L.length : Int) != (L.length : Int)) = false := by simp
  clear F sz
  have hl0 : L.length = 0 := by rw [hL]; rfl
  have l2 : decide ((0 : Int) < (L.length : Int)) = false := by rw [decide_eq_false_iff_not]; omega
  have l2' : decide (0 < L.length) = false := by rw [decide_eq_false_iff_not]; omega
  clear hL hl0
  have HG := hid G
  have ne := G.ne
  have le := G.le
  have nil := G.nil
  have nil' := G.nil'
  have e1 : (e != 0) = true := by simpa using ne
  have e2 : decide ((q : Int) ≤ (tx.size : Int)) = true := by rw [decide_eq_true_iff]; omega
  have e2' : decide (q ≤ tx.size) = true := by rw [decide_eq_true_iff]; omega
  clear G ne
  go_enter Try.func7, Try.ntmps7
  have X := hid (ext_refl w)
  go_wp2_with fail
  (with_reducible refine (awake_in _).mono ?_)
  rintro e w2 ⟨rfl, x⟩
  have X := hid (ext_trans X.out x)
  clear x
  go_wp2_with fail
  (with_reducible refine (HF.out.cn.on _).mono ?_)
  rintro e w2 ⟨rfl, x⟩
  have X := hid (ext_trans X.out x)
  clear x
  go_wp2_with fail
  (with_reducible refine (HF.out.tx.on _).mono ?_)
  rintro e w2 ⟨rfl, x⟩
  have X := hid (ext_trans X.out x)
  clear x
  go_wp2_with fail
  (with_reducible refine (HF.out.pt.on _).mono ?_)
  rintro e w2 ⟨rfl, x⟩
  have hsz : w.heap.size ≤ w2.heap.size := (ext_trans X.out x).size
  have X := hid (ext_trans (ext_trans X.out x) (ext_alloc w2 (.cells #[.int .i64 0, .int .i64 0] 45)))
  clear x
  go_wp2_with fail
  obtain ⟨g, hg⟩ : ∃ g, g = w2.heap.size := ⟨_, rfl⟩
  obtain ⟨w3, hw3⟩ : ∃ w3, w3 = w2.alloc (.cells #[.int .i64 0, .int .i64 0] 45) := ⟨_, rfl⟩
  have K3 : Blk w3 g 45 #[.int .i64 0, .int .i64 0] := by rw [hw3, hg]; exact Blk.new _ _ _
  have hgw : w.heap.size ≤ g := by rw [hg]; exact hsz
  rw [← hw3] at X
  rw [← hw3, ← hg]
  have K := hid K3
  clear hw3 hg K3 hsz
  (with_reducible refine (HF.out.lb _).mono ?_)
  rintro e w4 ⟨A, c, rfl, oA, x⟩
  have K := hid (K.out.ext x)
  have RA := hid (OwnG.rd oA)
  have X := hid (ext_trans X.out x)
  clear x oA
  go_wp2_with fail
  (with_reducible refine (HF.out.jn _ _ _ RA.out).mono ?_)
  rintro e w5 ⟨rfl, x⟩
  have X := hid (ext_trans X.out x)
  have K := hid (K.out.ext x)
  obtain ⟨c1, c2, f1⟩ := K.out.two
  clear x
  go_wp2_with fail
  (with_reducible refine (HF.out.ct.on _).mono ?_)
  rintro e w6 ⟨rfl, x⟩
  have X := hid (ext_trans X.out x)
  have K := hid (K.out.ext x)
  clear x c1 c2 f1
  obtain ⟨c1, c2, f1⟩ := K.out.two
  go_wp2_with fail
  clear c1 c2 f1
  (with_reducible refine (HG.out.px.on _).mono ?_)
  rintro e w2 ⟨rfl, x⟩
  have X := hid (ext_trans (ext_trans X.out x) (ext_alloc w2 (.cells #[Value.int IntKind.i64 e, Value.int IntKind.i64 q] 45)))
  clear x
  go_wp2_with fail
  go_ret
  exact ⟨rfl, X.out⟩

set_option maxHeartbeats 16000000 in
set_option maxRecDepth 100000 in
theorem back_root_good {tn tx tm : ByteArray} {tt tc : ByteArray} {L : List Bs} {m : Nat} {t2 : ByteArray} (ka : tn.size ≤ 400) (kx : tx.size ≤ 1200) (F : BackN tn tt tc L m) (hL : L = []) (G : BackGood tx tm t2) (w : World) :
    Calls Try.prog 7 #[.string tn, .string tx] w fun e w' => e = .returned (.bool true) ∧ Below w.heap.size w w' := by
  have z1 : decide ((400 : Int) < (tn.size : Int)) = false := by rw [decide_eq_false_iff_not]; omega
  have z1' : decide (400 < tn.size) = false := by rw [decide_eq_false_iff_not]; omega
  have z2 : decide ((1200 : Int) < (tx.size : Int)) = false := by rw [decide_eq_false_iff_not]; omega
  have z2' : decide (1200 < tx.size) = false := by rw [decide_eq_false_iff_not]; omega
  have HF := hid F
  have sz := F.sz
  have m9 := F.m9
  have ll := F.ll
  have hm : m < tt.size := by omega
  have b0 := F.last hm
  have hcut := F.cut
  have q1 : (tt.size : Int) - 1 = (m : Int) := by omega
  have q2 : ((tt.size : Int) == 0) = false := by rw [beq_eq_false_iff_ne]; omega
  have q3 : (m : Int) < (tt.size : Int) := by omega
  have tt9 : tt.size ≤ 3000 := by omega
  have n1 : (tn.toList != tn.toList) = false := by simp
  have n1' : (tn.toList == tn.toList) = true := by simp
  have l1 : ((L.length : Int) != (L.length : Int)) = false := by simp
  clear F sz
  have hl0 : L.length = 0 := by rw [hL]; rfl
  have l2 : decide ((0 : Int) < (L.length : Int)) = false := by rw [decide_eq_false_iff_not]; omega
  have l2' : decide (0 < L.length) = false := by rw [decide_eq_false_iff_not]; omega
  clear hL hl0
  have HG := hid G
  have m1 : (tm.toList == tm.toList) = true := by simp
  clear G
  go_enter Try.func7, Try.ntmps7
  have X := hid (ext_refl w)
  go_wp2_with fail
  (with_reducible refine (awake_in _).mono ?_)
  rintro e w2 ⟨rfl, x⟩
  have X := hid (ext_trans X.out x)
  clear x
  go_wp2_with fail
  (with_reducible refine (HF.out.cn.on _).mono ?_)
  rintro e w2 ⟨rfl, x⟩
  have X := hid (ext_trans X.out x)
  clear x
  go_wp2_with fail
  (with_reducible refine (HF.out.tx.on _).mono ?_)
  rintro e w2 ⟨rfl, x⟩
  have X := hid (ext_trans X.out x)
  clear x
  go_wp2_with fail
  (with_reducible refine (HF.out.pt.on _).mono ?_)
  rintro e w2 ⟨rfl, x⟩
  have hsz : w.heap.size ≤ w2.heap.size := (ext_trans X.out x).size
  have X := hid (ext_trans (ext_trans X.out x) (ext_alloc w2 (.cells #[.int .i64 0, .int .i64 0] 45)))
  clear x
  go_wp2_with fail
  obtain ⟨g, hg⟩ : ∃ g, g = w2.heap.size := ⟨_, rfl⟩
  obtain ⟨w3, hw3⟩ : ∃ w3, w3 = w2.alloc (.cells #[.int .i64 0, .int .i64 0] 45) := ⟨_, rfl⟩
  have K3 : Blk w3 g 45 #[.int .i64 0, .int .i64 0] := by rw [hw3, hg]; exact Blk.new _ _ _
  have hgw : w.heap.size ≤ g := by rw [hg]; exact hsz
  rw [← hw3] at X
  rw [← hw3, ← hg]
  have K := hid K3
  clear hw3 hg K3 hsz
  (with_reducible refine (HF.out.lb _).mono ?_)
  rintro e w4 ⟨A, c, rfl, oA, x⟩
  have K := hid (K.out.ext x)
  have RA := hid (OwnG.rd oA)
  have X := hid (ext_trans X.out x)
  clear x oA
  go_wp2_with fail
  (with_reducible refine (HF.out.jn _ _ _ RA.out).mono ?_)
  rintro e w5 ⟨rfl, x⟩
  have X := hid (ext_trans X.out x)
  have K := hid (K.out.ext x)
  obtain ⟨c1, c2, f1⟩ := K.out.two
  clear x
  go_wp2_with fail
  (with_reducible refine (HF.out.ct.on _).mono ?_)
  rintro e w6 ⟨rfl, x⟩
  have X := hid (ext_trans X.out x)
  have K := hid (K.out.ext x)
  clear x c1 c2 f1
  obtain ⟨c1, c2, f1⟩ := K.out.two
  go_wp2_with fail
  clear c1 c2 f1
  (with_reducible refine (HG.out.px.on _).mono ?_)
  rintro e w2 ⟨rfl, x⟩
  have X := hid (ext_trans (ext_trans X.out x) (ext_alloc w2 (.cells #[Value.int IntKind.i64 0, Value.int IntKind.i64 0] 45)))
  clear x
  go_wp2_with fail
  (with_reducible refine (HG.out.xt.on _).mono ?_)
  rintro e w2 ⟨rfl, x⟩
  have X := hid (ext_trans X.out x)
  clear x
  go_wp2_with fail
  (with_reducible refine (HG.out.p2.on _).mono ?_)
  rintro e w8 ⟨rfl, x⟩
  have X := hid (ext_trans (ext_trans X.out x) (ext_alloc w8 (.cells #[.int .i64 0, .int .i64 0] 45)))
  clear x
  go_wp2_with fail
  (with_reducible refine (HG.out.ck.on _).mono ?_)
  rintro e w9 ⟨rfl, x⟩
  obtain ⟨c1, c2, f1⟩ := ((Blk.new w8 45 #[.int .i64 0, .int .i64 0]).ext x).two
  have X := hid (ext_trans X.out x)
  clear x
  go_wp2_with fail
  go_ret
  exact ⟨rfl, X.out⟩

set_option maxHeartbeats 16000000 in
set_option maxRecDepth 100000 in
theorem back_some_bad {tn tx tm : ByteArray} {tt tc : ByteArray} {L : List Bs} {m : Nat} {e : Int} {q : Nat} (ka : tn.size ≤ 400) (kx : tx.size ≤ 1200) (F : BackN tn tt tc L m) (hL : L ≠ []) (G : BackBad tx tm e q) (w : World) :
    Calls Try.prog 7 #[.string tn, .string tx] w fun e w' => e = .returned (.bool true) ∧ Below w.heap.size w w' := by
  have z1 : decide ((400 : Int) < (tn.size : Int)) = false := by rw [decide_eq_false_iff_not]; omega
  have z1' : decide (400 < tn.size) = false := by rw [decide_eq_false_iff_not]; omega
  have z2 : decide ((1200 : Int) < (tx.size : Int)) = false := by rw [decide_eq_false_iff_not]; omega
  have z2' : decide (1200 < tx.size) = false := by rw [decide_eq_false_iff_not]; omega
  have HF := hid F
  have sz := F.sz
  have m9 := F.m9
  have ll := F.ll
  have hm : m < tt.size := by omega
  have b0 := F.last hm
  have hcut := F.cut
  have q1 : (tt.size : Int) - 1 = (m : Int) := by omega
  have q2 : ((tt.size : Int) == 0) = false := by rw [beq_eq_false_iff_ne]; omega
  have q3 : (m : Int) < (tt.size : Int) := by omega
  have tt9 : tt.size ≤ 3000 := by omega
  have n1 : (tn.toList != tn.toList) = false := by simp
  have n1' : (tn.toList == tn.toList) = true := by simp
  have l1 : ((L.length : Int) != (L.length : Int)) = false := by simp
  clear F sz
  have HPC := hid (HF.out.pc hL)
  have hL1 : 1 ≤ L.length := by rcases L with _ | _; exact absurd rfl hL; simp
  have l2 : decide ((0 : Int) < (L.length : Int)) = true := by rw [decide_eq_true_iff]; omega
  have l2' : decide (0 < L.length) = true := by rw [decide_eq_true_iff]; omega
  clear hL
  have HG := hid G
  have ne := G.ne
  have le := G.le
  have nil := G.nil
  have nil' := G.nil'
  have e1 : (e != 0) = true := by simpa using ne
  have e2 : decide ((q : Int) ≤ (tx.size : Int)) = true := by rw [decide_eq_true_iff]; omega
  have e2' : decide (q ≤ tx.size) = true := by rw [decide_eq_true_iff]; omega
  clear G ne
  go_enter Try.func7, Try.ntmps7
  have X := hid (ext_refl w)
  go_wp2_with fail
  (with_reducible refine (awake_in _).mono ?_)
  rintro e w2 ⟨rfl, x⟩
  have X := hid (ext_trans X.out x)
  clear x
  go_wp2_with fail
  (with_reducible refine (HF.out.cn.on _).mono ?_)
  rintro e w2 ⟨rfl, x⟩
  have X := hid (ext_trans X.out x)
  clear x
  go_wp2_with fail
  (with_reducible refine (HF.out.tx.on _).mono ?_)
  rintro e w2 ⟨rfl, x⟩
  have X := hid (ext_trans X.out x)
  clear x
  go_wp2_with fail
  (with_reducible refine (HF.out.pt.on _).mono ?_)
  rintro e w2 ⟨rfl, x⟩
  have hsz : w.heap.size ≤ w2.heap.size := (ext_trans X.out x).size
  have X := hid (ext_trans (ext_trans X.out x) (ext_alloc w2 (.cells #[.int .i64 0, .int .i64 0] 45)))
  clear x
  go_wp2_with fail
  obtain ⟨g, hg⟩ : ∃ g, g = w2.heap.size := ⟨_, rfl⟩
  obtain ⟨w3, hw3⟩ : ∃ w3, w3 = w2.alloc (.cells #[.int .i64 0, .int .i64 0] 45) := ⟨_, rfl⟩
  have K3 : Blk w3 g 45 #[.int .i64 0, .int .i64 0] := by rw [hw3, hg]; exact Blk.new _ _ _
  have hgw : w.heap.size ≤ g := by rw [hg]; exact hsz
  rw [← hw3] at X
  rw [← hw3, ← hg]
  have K := hid K3
  clear hw3 hg K3 hsz
  (with_reducible refine (HF.out.lb _).mono ?_)
  rintro e w4 ⟨A, c, rfl, oA, x⟩
  have K := hid (K.out.ext x)
  have RA := hid (OwnG.rd oA)
  have X := hid (ext_trans X.out x)
  clear x oA
  go_wp2_with fail
  (with_reducible refine (HF.out.jn _ _ _ RA.out).mono ?_)
  rintro e w5 ⟨rfl, x⟩
  have X := hid (ext_trans X.out x)
  have K := hid (K.out.ext x)
  obtain ⟨c1, c2, f1⟩ := K.out.two
  clear x
  go_wp2_with fail
  (with_reducible refine (HF.out.ct.on _).mono ?_)
  rintro e w6 ⟨rfl, x⟩
  have X := hid (ext_trans X.out x)
  have K := hid (K.out.ext x)
  clear x c1 c2 f1
  obtain ⟨c1, c2, f1⟩ := K.out.two
  go_wp2_with fail
  (with_reducible refine (HPC.out.on _).mono ?_)
  rintro e w7 ⟨rfl, x⟩
  have X := hid (ext_trans X.out x)
  have K := hid (K.out.ext x)
  clear x c1 c2 f1
  obtain ⟨c1, c2, f1⟩ := K.out.two
  go_wp2_with fail
  have X : Hid (Below w.heap.size w ((w7.setCell ⟨g, 0, none⟩ (.int .i64 0)).setCell ⟨g, 1, none⟩ (.int .i64 0))) := hid ((X.out.setCell hgw _).setCell hgw _)
  clear c1 c2 f1
  (with_reducible refine (HG.out.px.on _).mono ?_)
  rintro e w2 ⟨rfl, x⟩
  have X := hid (ext_trans (ext_trans X.out x) (ext_alloc w2 (.cells #[Value.int IntKind.i64 e, Value.int IntKind.i64 q] 45)))
  clear x
  go_wp2_with fail
  go_ret
  exact ⟨rfl, X.out⟩

set_option maxHeartbeats 16000000 in
set_option maxRecDepth 100000 in
theorem back_some_good {tn tx tm : ByteArray} {tt tc : ByteArray} {L : List Bs} {m : Nat} {t2 : ByteArray} (ka : tn.size ≤ 400) (kx : tx.size ≤ 1200) (F : BackN tn tt tc L m) (hL : L ≠ []) (G : BackGood tx tm t2) (w : World) :
    Calls Try.prog 7 #[.string tn, .string tx] w fun e w' => e = .returned (.bool true) ∧ Below w.heap.size w w' := by
  have z1 : decide ((400 : Int) < (tn.size : Int)) = false := by rw [decide_eq_false_iff_not]; omega
  have z1' : decide (400 < tn.size) = false := by rw [decide_eq_false_iff_not]; omega
  have z2 : decide ((1200 : Int) < (tx.size : Int)) = false := by rw [decide_eq_false_iff_not]; omega
  have z2' : decide (1200 < tx.size) = false := by rw [decide_eq_false_iff_not]; omega
  have HF := hid F
  have sz := F.sz
  have m9 := F.m9
  have ll := F.ll
  have hm : m < tt.size := by omega
  have b0 := F.last hm
  have hcut := F.cut
  have q1 : (tt.size : Int) - 1 = (m : Int) := by omega
  have q2 : ((tt.size : Int) == 0) = false := by rw [beq_eq_false_iff_ne]; omega
  have q3 : (m : Int) < (tt.size : Int) := by omega
  have tt9 : tt.size ≤ 3000 := by omega
  have n1 : (tn.toList != tn.toList) = false := by simp
  have n1' : (tn.toList == tn.toList) = true := by simp
  have l1 : ((L.length : Int) != (L.length : Int)) = false := by simp
  clear F sz
  have HPC := hid (HF.out.pc hL)
  have hL1 : 1 ≤ L.length := by rcases L with _ | _; exact absurd rfl hL; simp
  have l2 : decide ((0 : Int) < (L.length : Int)) = true := by rw [decide_eq_true_iff]; omega
  have l2' : decide (0 < L.length) = true := by rw [decide_eq_true_iff]; omega
  clear hL
  have HG := hid G
  have m1 : (tm.toList == tm.toList) = true := by simp
  clear G
  go_enter Try.func7, Try.ntmps7
  have X := hid (ext_refl w)
  go_wp2_with fail
  (with_reducible refine (awake_in _).mono ?_)
  rintro e w2 ⟨rfl, x⟩
  have X := hid (ext_trans X.out x)
  clear x
  go_wp2_with fail
  (with_reducible refine (HF.out.cn.on _).mono ?_)
  rintro e w2 ⟨rfl, x⟩
  have X := hid (ext_trans X.out x)
  clear x
  go_wp2_with fail
  (with_reducible refine (HF.out.tx.on _).mono ?_)
  rintro e w2 ⟨rfl, x⟩
  have X := hid (ext_trans X.out x)
  clear x
  go_wp2_with fail
  (with_reducible refine (HF.out.pt.on _).mono ?_)
  rintro e w2 ⟨rfl, x⟩
  have hsz : w.heap.size ≤ w2.heap.size := (ext_trans X.out x).size
  have X := hid (ext_trans (ext_trans X.out x) (ext_alloc w2 (.cells #[.int .i64 0, .int .i64 0] 45)))
  clear x
  go_wp2_with fail
  obtain ⟨g, hg⟩ : ∃ g, g = w2.heap.size := ⟨_, rfl⟩
  obtain ⟨w3, hw3⟩ : ∃ w3, w3 = w2.alloc (.cells #[.int .i64 0, .int .i64 0] 45) := ⟨_, rfl⟩
  have K3 : Blk w3 g 45 #[.int .i64 0, .int .i64 0] := by rw [hw3, hg]; exact Blk.new _ _ _
  have hgw : w.heap.size ≤ g := by rw [hg]; exact hsz
  rw [← hw3] at X
  rw [← hw3, ← hg]
  have K := hid K3
  clear hw3 hg K3 hsz
  (with_reducible refine (HF.out.lb _).mono ?_)
  rintro e w4 ⟨A, c, rfl, oA, x⟩
  have K := hid (K.out.ext x)
  have RA := hid (OwnG.rd oA)
  have X := hid (ext_trans X.out x)
  clear x oA
  go_wp2_with fail
  (with_reducible refine (HF.out.jn _ _ _ RA.out).mono ?_)
  rintro e w5 ⟨rfl, x⟩
  have X := hid (ext_trans X.out x)
  have K := hid (K.out.ext x)
  obtain ⟨c1, c2, f1⟩ := K.out.two
  clear x
  go_wp2_with fail
  (with_reducible refine (HF.out.ct.on _).mono ?_)
  rintro e w6 ⟨rfl, x⟩
  have X := hid (ext_trans X.out x)
  have K := hid (K.out.ext x)
  clear x c1 c2 f1
  obtain ⟨c1, c2, f1⟩ := K.out.two
  go_wp2_with fail
  (with_reducible refine (HPC.out.on _).mono ?_)
  rintro e w7 ⟨rfl, x⟩
  have X := hid (ext_trans X.out x)
  have K := hid (K.out.ext x)
  clear x c1 c2 f1
  obtain ⟨c1, c2, f1⟩ := K.out.two
  go_wp2_with fail
  have X : Hid (Below w.heap.size w ((w7.setCell ⟨g, 0, none⟩ (.int .i64 0)).setCell ⟨g, 1, none⟩ (.int .i64 0))) := hid ((X.out.setCell hgw _).setCell hgw _)
  clear c1 c2 f1
  (with_reducible refine (HG.out.px.on _).mono ?_)
  rintro e w2 ⟨rfl, x⟩
  have X := hid (ext_trans (ext_trans X.out x) (ext_alloc w2 (.cells #[Value.int IntKind.i64 0, Value.int IntKind.i64 0] 45)))
  clear x
  go_wp2_with fail
  (with_reducible refine (HG.out.xt.on _).mono ?_)
  rintro e w2 ⟨rfl, x⟩
  have X := hid (ext_trans X.out x)
  clear x
  go_wp2_with fail
  (with_reducible refine (HG.out.p2.on _).mono ?_)
  rintro e w8 ⟨rfl, x⟩
  have X := hid (ext_trans (ext_trans X.out x) (ext_alloc w8 (.cells #[.int .i64 0, .int .i64 0] 45)))
  clear x
  go_wp2_with fail
  (with_reducible refine (HG.out.ck.on _).mono ?_)
  rintro e w9 ⟨rfl, x⟩
  obtain ⟨c1, c2, f1⟩ := ((Blk.new w8 45 #[.int .i64 0, .int .i64 0]).ext x).two
  have X := hid (ext_trans X.out x)
  clear x
  go_wp2_with fail
  go_ret
  exact ⟨rfl, X.out⟩
end Go.Proofs.Ytcgcadhnecakaaa

/- The law NameZones: the walk. -/
import Derived.Test.YtcgcadhnecakaaaNamX
import Derived.Test.YtcgcadhnecakaaaNamG
import Derived.Test.YtcgcadhnecakaaaNamR
import Derived.Test.YtcgcadhnecakaaaBakA
import Derived.Deep.RegionLaw
namespace Go.Proofs.Ytcgcadhnecakaaa
open Go.BK Go.RowKit Go.BK.NM
set_option linter.unusedVariables false

set_option maxHeartbeats 4000000 in
set_option maxRecDepth 100000 in
theorem zones_early1 {A B : Option Addr} {c d : Nat} {K Z : List Bs} {tm : ByteArray} (w : World) (n1 : K.length ≤ 9223372036854775807) (n2 : Z.length ≤ 9223372036854775807) (n3 : tm.size ≤ 9223372036854775807) (h1 : 10 < K.length) :
    Calls Try.prog 4 #[.slice A K.length c, .slice B Z.length d, .string tm] w fun e w' => e = .returned (.bool true) ∧ Below w.heap.size w w' := by
  have z1 : decide ((10 : Int) < (K.length : Int)) = true := by rw [decide_eq_true_iff]; omega
  have z1' : decide (10 < K.length) = true := by rw [decide_eq_true_iff]; omega
  clear h1
  go_enter Try.func4, Try.ntmps4
  have X := hid (ext_refl w)
  go_wp2_with fail
  (with_reducible refine (awake_in _).mono ?_)
  rintro e w2 ⟨rfl, x⟩
  have X := hid (ext_trans X.out x)
  clear x
  go_wp2_with fail
  go_ret
  exact ⟨rfl, X.out⟩

set_option maxHeartbeats 4000000 in
set_option maxRecDepth 100000 in
theorem zones_early2 {A B : Option Addr} {c d : Nat} {K Z : List Bs} {tm : ByteArray} (w : World) (n1 : K.length ≤ 9223372036854775807) (n2 : Z.length ≤ 9223372036854775807) (n3 : tm.size ≤ 9223372036854775807) (h1 : K.length ≤ 10) (h2 : 10 < Z.length) :
    Calls Try.prog 4 #[.slice A K.length c, .slice B Z.length d, .string tm] w fun e w' => e = .returned (.bool true) ∧ Below w.heap.size w w' := by
  have z1 : decide ((10 : Int) < (K.length : Int)) = false := by rw [decide_eq_false_iff_not]; omega
  have z1' : decide (10 < K.length) = false := by rw [decide_eq_false_iff_not]; omega
  have z2 : decide ((10 : Int) < (Z.length : Int)) = true := by rw [decide_eq_true_iff]; omega
  have z2' : decide (10 < Z.length) = true := by rw [decide_eq_true_iff]; omega
  clear h1 h2
  go_enter Try.func4, Try.ntmps4
  have X := hid (ext_refl w)
  go_wp2_with fail
  (with_reducible refine (awake_in _).mono ?_)
  rintro e w2 ⟨rfl, x⟩
  have X := hid (ext_trans X.out x)
  clear x
  go_wp2_with fail
  go_ret
  exact ⟨rfl, X.out⟩

set_option maxHeartbeats 4000000 in
set_option maxRecDepth 100000 in
theorem zones_early3 {A B : Option Addr} {c d : Nat} {K Z : List Bs} {tm : ByteArray} (w : World) (n1 : K.length ≤ 9223372036854775807) (n2 : Z.length ≤ 9223372036854775807) (n3 : tm.size ≤ 9223372036854775807) (h1 : K.length ≤ 10) (h2 : Z.length ≤ 10) (h3 : 60 < tm.size) :
    Calls Try.prog 4 #[.slice A K.length c, .slice B Z.length d, .string tm] w fun e w' => e = .returned (.bool true) ∧ Below w.heap.size w w' := by
  have z1 : decide ((10 : Int) < (K.length : Int)) = false := by rw [decide_eq_false_iff_not]; omega
  have z1' : decide (10 < K.length) = false := by rw [decide_eq_false_iff_not]; omega
  have z2 : decide ((10 : Int) < (Z.length : Int)) = false := by rw [decide_eq_false_iff_not]; omega
  have z2' : decide (10 < Z.length) = false := by rw [decide_eq_false_iff_not]; omega
  have z3 : decide ((60 : Int) < (tm.size : Int)) = true := by rw [decide_eq_true_iff]; omega
  have z3' : decide (60 < tm.size) = true := by rw [decide_eq_true_iff]; omega
  clear h1 h2 h3
  go_enter Try.func4, Try.ntmps4
  have X := hid (ext_refl w)
  go_wp2_with fail
  (with_reducible refine (awake_in _).mono ?_)
  rintro e w2 ⟨rfl, x⟩
  have X := hid (ext_trans X.out x)
  clear x
  go_wp2_with fail
  go_ret
  exact ⟨rfl, X.out⟩

set_option maxHeartbeats 4000000 in
set_option maxRecDepth 100000 in
theorem zones_early4 {A B : Option Addr} {c d : Nat} {K Z : List Bs} {tm : ByteArray} (w : World) (n1 : K.length ≤ 9223372036854775807) (n2 : Z.length ≤ 9223372036854775807) (n3 : tm.size ≤ 9223372036854775807) (h1 : K.length ≤ 10) (h2 : Z.length ≤ 10) (h3 : tm.size ≤ 60) (l1 : ∀ W, Ext w W → Calls Try.prog 9 #[.slice A K.length c] W fun e w' => e = .returned (.bool true) ∧ Ext W w') :
    Calls Try.prog 4 #[.slice A K.length c, .slice B Z.length d, .string tm] w fun e w' => e = .returned (.bool true) ∧ Below w.heap.size w w' := by
  have z1 : decide ((10 : Int) < (K.length : Int)) = false := by rw [decide_eq_false_iff_not]; omega
  have z1' : decide (10 < K.length) = false := by rw [decide_eq_false_iff_not]; omega
  have z2 : decide ((10 : Int) < (Z.length : Int)) = false := by rw [decide_eq_false_iff_not]; omega
  have z2' : decide (10 < Z.length) = false := by rw [decide_eq_false_iff_not]; omega
  have z3 : decide ((60 : Int) < (tm.size : Int)) = false := by rw [decide_eq_false_iff_not]; omega
  have z3' : decide (60 < tm.size) = false := by rw [decide_eq_false_iff_not]; omega
  have L1 := hid l1
  clear l1
  clear h1 h2 h3
  go_enter Try.func4, Try.ntmps4
  have X := hid (ext_refl w)
  go_wp2_with fail
  (with_reducible refine (awake_in _).mono ?_)
  rintro e w2 ⟨rfl, x⟩
  have X := hid (ext_trans X.out x)
  clear x
  go_wp2_with fail
  (with_reducible refine (L1.out _ X.out).mono ?_)
  rintro e w2 ⟨rfl, x⟩
  have X := hid (ext_trans X.out x)
  clear x
  go_wp2_with fail
  go_ret
  exact ⟨rfl, X.out⟩

set_option maxHeartbeats 4000000 in
set_option maxRecDepth 100000 in
theorem zones_early5 {A B : Option Addr} {c d : Nat} {K Z : List Bs} {tm : ByteArray} (w : World) (n1 : K.length ≤ 9223372036854775807) (n2 : Z.length ≤ 9223372036854775807) (n3 : tm.size ≤ 9223372036854775807) (h1 : K.length ≤ 10) (h2 : Z.length ≤ 10) (h3 : tm.size ≤ 60) (l1 : ∀ W, Ext w W → Calls Try.prog 9 #[.slice A K.length c] W fun e w' => e = .returned (.bool false) ∧ Ext W w') (l2 : ∀ W, Ext w W → Calls Try.prog 9 #[.slice B Z.length d] W fun e w' => e = .returned (.bool true) ∧ Ext W w') :
    Calls Try.prog 4 #[.slice A K.length c, .slice B Z.length d, .string tm] w fun e w' => e = .returned (.bool true) ∧ Below w.heap.size w w' := by
  have z1 : decide ((10 : Int) < (K.length : Int)) = false := by rw [decide_eq_false_iff_not]; omega
  have z1' : decide (10 < K.length) = false := by rw [decide_eq_false_iff_not]; omega
  have z2 : decide ((10 : Int) < (Z.length : Int)) = false := by rw [decide_eq_false_iff_not]; omega
  have z2' : decide (10 < Z.length) = false := by rw [decide_eq_false_iff_not]; omega
  have z3 : decide ((60 : Int) < (tm.size : Int)) = false := by rw [decide_eq_false_iff_not]; omega
  have z3' : decide (60 < tm.size) = false := by rw [decide_eq_false_iff_not]; omega
  have L1 := hid l1
  clear l1
  have L2 := hid l2
  clear l2
  clear h1 h2 h3
  go_enter Try.func4, Try.ntmps4
  have X := hid (ext_refl w)
  go_wp2_with fail
  (with_reducible refine (awake_in _).mono ?_)
  rintro e w2 ⟨rfl, x⟩
  have X := hid (ext_trans X.out x)
  clear x
  go_wp2_with fail
  (with_reducible refine (L1.out _ X.out).mono ?_)
  rintro e w2 ⟨rfl, x⟩
  have X := hid (ext_trans X.out x)
  clear x
  go_wp2_with fail
  (with_reducible refine (L2.out _ X.out).mono ?_)
  rintro e w2 ⟨rfl, x⟩
  have X := hid (ext_trans X.out x)
  clear x
  go_wp2_with fail
  go_ret
  exact ⟨rfl, X.out⟩

structure ZonF (w : World) (A B : Option Addr) (c d : Nat) (K Z : List Bs) (tm tz tn : ByteArray) (E F : Int) : Prop where
  k10 : K.length ≤ 10
  z10 : Z.length ≤ 10
  m60 : tm.size ≤ 60
  l1 : ∀ W, Ext w W → Calls Try.prog 9 #[.slice A K.length c] W fun e w' => e = .returned (.bool false) ∧ Ext W w'
  l2 : ∀ W, Ext w W → Calls Try.prog 9 #[.slice B Z.length d] W fun e w' => e = .returned (.bool false) ∧ Ext W w'
  jz : ∀ W, Ext w W → Calls Try.prog 13 #[.slice B Z.length d] W fun e w' => e = .returned (.tuple #[.string tz, .int .i64 E]) ∧ Ext W w'
  cp : ∀ W, Ext w W → Calls Try.prog 22 #[.slice A K.length c] W fun e w' => ∃ A' c', e = .returned (.slice A' K.length c') ∧ OwnG isT w' W.heap.size 9 1 A' K.length c' (tvs K) ∧ Ext W w'
  jn : ∀ W A' c', RdG W 1 A' (K.length + Z.length) c' (tvs K ++ tvs Z) → Calls Try.prog 13 #[.slice A' (K.length + Z.length) c'] W fun e w' => e = .returned (.tuple #[.string tn, .int .i64 F]) ∧ Ext W w'
  rz : ∀ W, Ext w W → RdG W 1 B Z.length d (tvs Z)

set_option maxHeartbeats 8000000 in
set_option maxRecDepth 100000 in
theorem zones_badz {A B : Option Addr} {c d : Nat} {K Z : List Bs} {tm : ByteArray} {tz tn : ByteArray} {E F : Int} (w : World) (G : ZonF w A B c d K Z tm tz tn E F) (hE : E ≠ 0) :
    Calls Try.prog 4 #[.slice A K.length c, .slice B Z.length d, .string tm] w fun e w' => e = .returned (.bool true) ∧ Below w.heap.size w w' := by
  have zE : (E != 0) = true := by simpa using hE
  clear hE
  have HF := hid G
  have k10 := G.k10
  have z10 := G.z10
  have m60 := G.m60
  have z1 : decide ((10 : Int) < (K.length : Int)) = false := by rw [decide_eq_false_iff_not]; omega
  have z1' : decide (10 < K.length) = false := by rw [decide_eq_false_iff_not]; omega
  have z2 : decide ((10 : Int) < (Z.length : Int)) = false := by rw [decide_eq_false_iff_not]; omega
  have z2' : decide (10 < Z.length) = false := by rw [decide_eq_false_iff_not]; omega
  have z3 : decide ((60 : Int) < (tm.size : Int)) = false := by rw [decide_eq_false_iff_not]; omega
  have z3' : decide (60 < tm.size) = false := by rw [decide_eq_false_iff_not]; omega
  obtain ⟨i0, hi, hz0, hz1, hz2⟩ := info_parts info_t
  have HI := hid hi
  clear G hi
  go_enter Try.func4, Try.ntmps4
  have X := hid (ext_refl w)
  go_wp2_with fail
  (with_reducible refine (awake_in _).mono ?_)
  rintro e w2 ⟨rfl, x⟩
  have X := hid (ext_trans X.out x)
  clear x
  go_wp2_with fail
  (with_reducible refine (HF.out.l1 _ X.out).mono ?_)
  rintro e w2 ⟨rfl, x⟩
  have X := hid (ext_trans X.out x)
  clear x
  go_wp2_with fail
  (with_reducible refine (HF.out.l2 _ X.out).mono ?_)
  rintro e w2 ⟨rfl, x⟩
  have X := hid (ext_trans X.out x)
  clear x
  go_wp2_with fail
  (with_reducible refine (HF.out.jz _ X.out).mono ?_)
  rintro e w2 ⟨rfl, x⟩
  have X := hid (ext_trans X.out x)
  have hw2 := X.out.size
  clear x
  go_wp2_with fail
  (with_reducible refine (HF.out.cp _ X.out).mono ?_)
  rintro e w3 ⟨A', c', rfl, oA, x⟩
  have hb3 := x.size
  have X := hid (ext_trans X.out x)
  have OA := hid oA
  have RZ := hid (HF.out.rz _ X.out)
  have hw3 : w.heap.size ≤ w2.heap.size := by
    first | exact hw2 | (have := X.out.size; omega)
  clear x oA
  go_wp2_with ((with_reducible show wpList _ _ _ (⟨some 49, _, _, _, _, _⟩ :: _) _ _); go_must (refine wpList_append_g rfl (.tmp 47) (.tmp 48) 22 rfl w2.heap.size 9 i0 (.string ⟨#[]⟩) 1 16 Try.underlying22 HI.out hz0 hz1 hz2 rfl (by decide) (by simp [Value.cells]; exact ⟨_, rfl⟩) (fun _ h => h.one) rfl OA.out rfl RZ.out (isT_tvs Z) (by omega) (by unfold maxLen; omega) hb3 ?_); intro A4 c4 w4 o4 g4 n4)
  have R4 := OwnG.rd o4
  have X : Hid (Below w.heap.size w w4) := hid (Below.grown X.out g4 X.out.size (fun b hb => by have := (OA.out.lt b hb).1; omega))
  (with_reducible refine (HF.out.jn _ _ _ R4).mono ?_)
  rintro e w5 ⟨rfl, x⟩
  have X := hid (ext_trans X.out x)
  clear x R4 o4 g4 n4
  go_wp2_with fail
  go_ret
  exact ⟨rfl, X.out⟩

set_option maxHeartbeats 8000000 in
set_option maxRecDepth 100000 in
theorem zones_badn {A B : Option Addr} {c d : Nat} {K Z : List Bs} {tm : ByteArray} {tz tn : ByteArray} {F : Int} (w : World) (G : ZonF w A B c d K Z tm tz tn 0 F) (hE : F ≠ 0) :
    Calls Try.prog 4 #[.slice A K.length c, .slice B Z.length d, .string tm] w fun e w' => e = .returned (.bool true) ∧ Below w.heap.size w w' := by
  have zE : (F != 0) = true := by simpa using hE
  clear hE
  have HF := hid G
  have k10 := G.k10
  have z10 := G.z10
  have m60 := G.m60
  have z1 : decide ((10 : Int) < (K.length : Int)) = false := by rw [decide_eq_false_iff_not]; omega
  have z1' : decide (10 < K.length) = false := by rw [decide_eq_false_iff_not]; omega
  have z2 : decide ((10 : Int) < (Z.length : Int)) = false := by rw [decide_eq_false_iff_not]; omega
  have z2' : decide (10 < Z.length) = false := by rw [decide_eq_false_iff_not]; omega
  have z3 : decide ((60 : Int) < (tm.size : Int)) = false := by rw [decide_eq_false_iff_not]; omega
  have z3' : decide (60 < tm.size) = false := by rw [decide_eq_false_iff_not]; omega
  obtain ⟨i0, hi, hz0, hz1, hz2⟩ := info_parts info_t
  have HI := hid hi
  clear G hi
  go_enter Try.func4, Try.ntmps4
  have X := hid (ext_refl w)
  go_wp2_with fail
  (with_reducible refine (awake_in _).mono ?_)
  rintro e w2 ⟨rfl, x⟩
  have X := hid (ext_trans X.out x)
  clear x
  go_wp2_with fail
  (with_reducible refine (HF.out.l1 _ X.out).mono ?_)
  rintro e w2 ⟨rfl, x⟩
  have X := hid (ext_trans X.out x)
  clear x
  go_wp2_with fail
  (with_reducible refine (HF.out.l2 _ X.out).mono ?_)
  rintro e w2 ⟨rfl, x⟩
  have X := hid (ext_trans X.out x)
  clear x
  go_wp2_with fail
  (with_reducible refine (HF.out.jz _ X.out).mono ?_)
  rintro e w2 ⟨rfl, x⟩
  have X := hid (ext_trans X.out x)
  have hw2 := X.out.size
  clear x
  go_wp2_with fail
  (with_reducible refine (HF.out.cp _ X.out).mono ?_)
  rintro e w3 ⟨A', c', rfl, oA, x⟩
  have hb3 := x.size
  have X := hid (ext_trans X.out x)
  have OA := hid oA
  have RZ := hid (HF.out.rz _ X.out)
  have hw3 : w.heap.size ≤ w2.heap.size := by
    first | exact hw2 | (have := X.out.size; omega)
  clear x oA
  go_wp2_with ((with_reducible show wpList _ _ _ (⟨some 49, _, _, _, _, _⟩ :: _) _ _); go_must (refine wpList_append_g rfl (.tmp 47) (.tmp 48) 22 rfl w2.heap.size 9 i0 (.string ⟨#[]⟩) 1 16 Try.underlying22 HI.out hz0 hz1 hz2 rfl (by decide) (by simp [Value.cells]; exact ⟨_, rfl⟩) (fun _ h => h.one) rfl OA.out rfl RZ.out (isT_tvs Z) (by omega) (by unfold maxLen; omega) hb3 ?_); intro A4 c4 w4 o4 g4 n4)
  have R4 := OwnG.rd o4
  have X : Hid (Below w.heap.size w w4) := hid (Below.grown X.out g4 X.out.size (fun b hb => by have := (OA.out.lt b hb).1; omega))
  (with_reducible refine (HF.out.jn _ _ _ R4).mono ?_)
  rintro e w5 ⟨rfl, x⟩
  have X := hid (ext_trans X.out x)
  clear x R4 o4 g4 n4
  go_wp2_with fail
  go_ret
  exact ⟨rfl, X.out⟩

structure ZonG (tz tn : ByteArray) (b0 : Bool) : Prop where
  nz : Tell 23 #[.string tn, .string tz] (.bool true)
  zn : Tell 23 #[.string tz, .string tn] (.bool b0)

set_option maxHeartbeats 8000000 in
set_option maxRecDepth 100000 in
theorem zones_none {A B : Option Addr} {c d : Nat} {K Z : List Bs} {tm : ByteArray} {tz tn : ByteArray} {b0 : Bool} (w : World) (G : ZonF w A B c d K Z tm tz tn 0 0) (H : ZonG tz tn b0) (hb : ((K.length : Int) == 0) = b0) (hz : Z.length = 0) :
    Calls Try.prog 4 #[.slice A K.length c, .slice B Z.length d, .string tm] w fun e w' => e = .returned (.bool true) ∧ Below w.heap.size w w' := by
  have y1 : ((Z.length : Int) == 0) = true := by simp [hz]
  clear hz
  have HG := hid H
  have b1 : ((K.length : Int) == 0) = b0 := hb
  have b2 : (b0 != b0) = false := by simp
  clear H hb
  have HF := hid G
  have k10 := G.k10
  have z10 := G.z10
  have m60 := G.m60
  have z1 : decide ((10 : Int) < (K.length : Int)) = false := by rw [decide_eq_false_iff_not]; omega
  have z1' : decide (10 < K.length) = false := by rw [decide_eq_false_iff_not]; omega
  have z2 : decide ((10 : Int) < (Z.length : Int)) = false := by rw [decide_eq_false_iff_not]; omega
  have z2' : decide (10 < Z.length) = false := by rw [decide_eq_false_iff_not]; omega
  have z3 : decide ((60 : Int) < (tm.size : Int)) = false := by rw [decide_eq_false_iff_not]; omega
  have z3' : decide (60 < tm.size) = false := by rw [decide_eq_false_iff_not]; omega
  obtain ⟨i0, hi, hz0, hz1, hz2⟩ := info_parts info_t
  have HI := hid hi
  clear G hi
  go_enter Try.func4, Try.ntmps4
  have X := hid (ext_refl w)
  go_wp2_with fail
  (with_reducible refine (awake_in _).mono ?_)
  rintro e w2 ⟨rfl, x⟩
  have X := hid (ext_trans X.out x)
  clear x
  go_wp2_with fail
  (with_reducible refine (HF.out.l1 _ X.out).mono ?_)
  rintro e w2 ⟨rfl, x⟩
  have X := hid (ext_trans X.out x)
  clear x
  go_wp2_with fail
  (with_reducible refine (HF.out.l2 _ X.out).mono ?_)
  rintro e w2 ⟨rfl, x⟩
  have X := hid (ext_trans X.out x)
  clear x
  go_wp2_with fail
  (with_reducible refine (HF.out.jz _ X.out).mono ?_)
  rintro e w2 ⟨rfl, x⟩
  have X := hid (ext_trans X.out x)
  have hw2 := X.out.size
  clear x
  go_wp2_with fail
  (with_reducible refine (HF.out.cp _ X.out).mono ?_)
  rintro e w3 ⟨A', c', rfl, oA, x⟩
  have hb3 := x.size
  have X := hid (ext_trans X.out x)
  have OA := hid oA
  have RZ := hid (HF.out.rz _ X.out)
  have hw3 : w.heap.size ≤ w2.heap.size := by
    first | exact hw2 | (have := X.out.size; omega)
  clear x oA
  go_wp2_with ((with_reducible show wpList _ _ _ (⟨some 49, _, _, _, _, _⟩ :: _) _ _); go_must (refine wpList_append_g rfl (.tmp 47) (.tmp 48) 22 rfl w2.heap.size 9 i0 (.string ⟨#[]⟩) 1 16 Try.underlying22 HI.out hz0 hz1 hz2 rfl (by decide) (by simp [Value.cells]; exact ⟨_, rfl⟩) (fun _ h => h.one) rfl OA.out rfl RZ.out (isT_tvs Z) (by omega) (by unfold maxLen; omega) hb3 ?_); intro A4 c4 w4 o4 g4 n4)
  have R4 := OwnG.rd o4
  have X : Hid (Below w.heap.size w w4) := hid (Below.grown X.out g4 X.out.size (fun b hb => by have := (OA.out.lt b hb).1; omega))
  (with_reducible refine (HF.out.jn _ _ _ R4).mono ?_)
  rintro e w5 ⟨rfl, x⟩
  have X := hid (ext_trans X.out x)
  clear x R4 o4 g4 n4
  go_wp2_with fail
  (with_reducible refine (HG.out.nz.on _).mono ?_)
  rintro e w2 ⟨rfl, x⟩
  have X := hid (ext_trans X.out x)
  clear x
  go_wp2_with fail
  (with_reducible refine (HG.out.zn.on _).mono ?_)
  rintro e w2 ⟨rfl, x⟩
  have X := hid (ext_trans X.out x)
  clear x
  go_wp2_with fail
  go_ret
  exact ⟨rfl, X.out⟩

set_option maxHeartbeats 8000000 in
set_option maxRecDepth 100000 in
theorem zones_empty {A B : Option Addr} {c d : Nat} {K Z : List Bs} {tm : ByteArray} {tz tn : ByteArray} {b0 : Bool} (w : World) (G : ZonF w A B c d K Z tm tz tn 0 0) (H : ZonG tz tn b0) (hb : ((K.length : Int) == 0) = b0) (hz : 1 ≤ Z.length) (hm : tm.toList = []) :
    Calls Try.prog 4 #[.slice A K.length c, .slice B Z.length d, .string tm] w fun e w' => e = .returned (.bool true) ∧ Below w.heap.size w w' := by
  have y1 : ((Z.length : Int) == 0) = false := by rw [beq_eq_false_iff_ne]; omega
  have y2 : (tm.toList == []) = true := by simp [hm]
  have y2' : tm.toList.isEmpty = true := by simp [hm]
  clear hz hm
  have HG := hid H
  have b1 : ((K.length : Int) == 0) = b0 := hb
  have b2 : (b0 != b0) = false := by simp
  clear H hb
  have HF := hid G
  have k10 := G.k10
  have z10 := G.z10
  have m60 := G.m60
  have z1 : decide ((10 : Int) < (K.length : Int)) = false := by rw [decide_eq_false_iff_not]; omega
  have z1' : decide (10 < K.length) = false := by rw [decide_eq_false_iff_not]; omega
  have z2 : decide ((10 : Int) < (Z.length : Int)) = false := by rw [decide_eq_false_iff_not]; omega
  have z2' : decide (10 < Z.length) = false := by rw [decide_eq_false_iff_not]; omega
  have z3 : decide ((60 : Int) < (tm.size : Int)) = false := by rw [decide_eq_false_iff_not]; omega
  have z3' : decide (60 < tm.size) = false := by rw [decide_eq_false_iff_not]; omega
  obtain ⟨i0, hi, hz0, hz1, hz2⟩ := info_parts info_t
  have HI := hid hi
  clear G hi
  go_enter Try.func4, Try.ntmps4
  have X := hid (ext_refl w)
  go_wp2_with fail
  (with_reducible refine (awake_in _).mono ?_)
  rintro e w2 ⟨rfl, x⟩
  have X := hid (ext_trans X.out x)
  clear x
  go_wp2_with fail
  (with_reducible refine (HF.out.l1 _ X.out).mono ?_)
  rintro e w2 ⟨rfl, x⟩
  have X := hid (ext_trans X.out x)
  clear x
  go_wp2_with fail
  (with_reducible refine (HF.out.l2 _ X.out).mono ?_)
  rintro e w2 ⟨rfl, x⟩
  have X := hid (ext_trans X.out x)
  clear x
  go_wp2_with fail
  (with_reducible refine (HF.out.jz _ X.out).mono ?_)
  rintro e w2 ⟨rfl, x⟩
  have X := hid (ext_trans X.out x)
  have hw2 := X.out.size
  clear x
  go_wp2_with fail
  (with_reducible refine (HF.out.cp _ X.out).mono ?_)
  rintro e w3 ⟨A', c', rfl, oA, x⟩
  have hb3 := x.size
  have X := hid (ext_trans X.out x)
  have OA := hid oA
  have RZ := hid (HF.out.rz _ X.out)
  have hw3 : w.heap.size ≤ w2.heap.size := by
    first | exact hw2 | (have := X.out.size; omega)
  clear x oA
  go_wp2_with ((with_reducible show wpList _ _ _ (⟨some 49, _, _, _, _, _⟩ :: _) _ _); go_must (refine wpList_append_g rfl (.tmp 47) (.tmp 48) 22 rfl w2.heap.size 9 i0 (.string ⟨#[]⟩) 1 16 Try.underlying22 HI.out hz0 hz1 hz2 rfl (by decide) (by simp [Value.cells]; exact ⟨_, rfl⟩) (fun _ h => h.one) rfl OA.out rfl RZ.out (isT_tvs Z) (by omega) (by unfold maxLen; omega) hb3 ?_); intro A4 c4 w4 o4 g4 n4)
  have R4 := OwnG.rd o4
  have X : Hid (Below w.heap.size w w4) := hid (Below.grown X.out g4 X.out.size (fun b hb => by have := (OA.out.lt b hb).1; omega))
  (with_reducible refine (HF.out.jn _ _ _ R4).mono ?_)
  rintro e w5 ⟨rfl, x⟩
  have X := hid (ext_trans X.out x)
  clear x R4 o4 g4 n4
  go_wp2_with fail
  (with_reducible refine (HG.out.nz.on _).mono ?_)
  rintro e w2 ⟨rfl, x⟩
  have X := hid (ext_trans X.out x)
  clear x
  go_wp2_with fail
  (with_reducible refine (HG.out.zn.on _).mono ?_)
  rintro e w2 ⟨rfl, x⟩
  have X := hid (ext_trans X.out x)
  clear x
  go_wp2_with fail
  go_ret
  exact ⟨rfl, X.out⟩

set_option maxHeartbeats 8000000 in
set_option maxRecDepth 100000 in
theorem zones_big {A B : Option Addr} {c d : Nat} {K Z : List Bs} {tm : ByteArray} {tz tn : ByteArray} {b0 : Bool} (w : World) (G : ZonF w A B c d K Z tm tz tn 0 0) (H : ZonG tz tn b0) (hb : ((K.length : Int) == 0) = b0) (hz : 1 ≤ Z.length) (hm : tm.toList ≠ []) (hs : 63 < tm.size + (Z.getD 0 []).length) (hs0 : (Z.getD 0 []).length ≤ 100) :
    Calls Try.prog 4 #[.slice A K.length c, .slice B Z.length d, .string tm] w fun e w' => e = .returned (.bool true) ∧ Below w.heap.size w w' := by
  have y1 : ((Z.length : Int) == 0) = false := by rw [beq_eq_false_iff_ne]; omega
  have y2 : (tm.toList == []) = false := by simp [hm]
  have y2' : tm.toList.isEmpty = false := by simp [hm]
  clear hm
  have HG := hid H
  have b1 : ((K.length : Int) == 0) = b0 := hb
  have b2 : (b0 != b0) = false := by simp
  clear H hb
  have HF := hid G
  have k10 := G.k10
  have z10 := G.z10
  have m60 := G.m60
  have z1 : decide ((10 : Int) < (K.length : Int)) = false := by rw [decide_eq_false_iff_not]; omega
  have z1' : decide (10 < K.length) = false := by rw [decide_eq_false_iff_not]; omega
  have z2 : decide ((10 : Int) < (Z.length : Int)) = false := by rw [decide_eq_false_iff_not]; omega
  have z2' : decide (10 < Z.length) = false := by rw [decide_eq_false_iff_not]; omega
  have z3 : decide ((60 : Int) < (tm.size : Int)) = false := by rw [decide_eq_false_iff_not]; omega
  have z3' : decide (60 < tm.size) = false := by rw [decide_eq_false_iff_not]; omega
  obtain ⟨i0, hi, hz0, hz1, hz2⟩ := info_parts info_t
  have HI := hid hi
  clear G hi
  have hiz : (0 : Int) < (Z.length : Int) := by omega
  obtain ⟨g, o, hB, hg, hc0⟩ := tvs_at (HF.out.rz w (ext_refl w)) (k := 0) (by omega)
  subst hB
  obtain ⟨t0, ht0⟩ : ∃ t, t = str (Z.getD 0 []) := ⟨_, rfl⟩
  have hts : t0.size = (Z.getD 0 []).length := by rw [ht0, str_size]
  rw [← ht0] at hc0
  have CN := hid (fun W (hW : Ext w W) => (hW.cell (p := ⟨g, o + 0, none⟩) hg).trans hc0)
  have y3 : decide ((63 : Int) < (tm.size : Int) + (t0.size : Int)) = true := by rw [decide_eq_true_iff]; omega
  have y3' : decide (63 < tm.size + t0.size) = true := by rw [decide_eq_true_iff]; omega
  have t9 : t0.size ≤ 100 := by omega
  clear hs hs0 ht0 hts hc0
  go_enter Try.func4, Try.ntmps4
  have X := hid (ext_refl w)
  go_wp2_with fail
  (with_reducible refine (awake_in _).mono ?_)
  rintro e w2 ⟨rfl, x⟩
  have X := hid (ext_trans X.out x)
  clear x
  go_wp2_with fail
  (with_reducible refine (HF.out.l1 _ X.out).mono ?_)
  rintro e w2 ⟨rfl, x⟩
  have X := hid (ext_trans X.out x)
  clear x
  go_wp2_with fail
  (with_reducible refine (HF.out.l2 _ X.out).mono ?_)
  rintro e w2 ⟨rfl, x⟩
  have X := hid (ext_trans X.out x)
  clear x
  go_wp2_with fail
  (with_reducible refine (HF.out.jz _ X.out).mono ?_)
  rintro e w2 ⟨rfl, x⟩
  have X := hid (ext_trans X.out x)
  have hw2 := X.out.size
  clear x
  go_wp2_with fail
  (with_reducible refine (HF.out.cp _ X.out).mono ?_)
  rintro e w3 ⟨A', c', rfl, oA, x⟩
  have hb3 := x.size
  have X := hid (ext_trans X.out x)
  have OA := hid oA
  have RZ := hid (HF.out.rz _ X.out)
  have hw3 : w.heap.size ≤ w2.heap.size := by
    first | exact hw2 | (have := X.out.size; omega)
  clear x oA
  go_wp2_with ((with_reducible show wpList _ _ _ (⟨some 49, _, _, _, _, _⟩ :: _) _ _); go_must (refine wpList_append_g rfl (.tmp 47) (.tmp 48) 22 rfl w2.heap.size 9 i0 (.string ⟨#[]⟩) 1 16 Try.underlying22 HI.out hz0 hz1 hz2 rfl (by decide) (by simp [Value.cells]; exact ⟨_, rfl⟩) (fun _ h => h.one) rfl OA.out rfl RZ.out (isT_tvs Z) (by omega) (by unfold maxLen; omega) hb3 ?_); intro A4 c4 w4 o4 g4 n4)
  have R4 := OwnG.rd o4
  have X : Hid (Below w.heap.size w w4) := hid (Below.grown X.out g4 X.out.size (fun b hb => by have := (OA.out.lt b hb).1; omega))
  (with_reducible refine (HF.out.jn _ _ _ R4).mono ?_)
  rintro e w5 ⟨rfl, x⟩
  have X := hid (ext_trans X.out x)
  clear x R4 o4 g4 n4
  go_wp2_with fail
  (with_reducible refine (HG.out.nz.on _).mono ?_)
  rintro e w2 ⟨rfl, x⟩
  have X := hid (ext_trans X.out x)
  clear x
  go_wp2_with fail
  (with_reducible refine (HG.out.zn.on _).mono ?_)
  rintro e w2 ⟨rfl, x⟩
  have X := hid (ext_trans X.out x)
  clear x
  have k0 := CN.out _ X.out
  rw [Nat.add_zero] at k0
  go_wp2_with fail
  go_ret
  exact ⟨rfl, X.out⟩

structure ZonH (t0 : ByteArray) (m : Nat) (Z' : List Bs) (tm tz tg tp : ByteArray) (h : Int) : Prop where
  jg : ∀ W A' c', RdG W 1 A' (1 + m) c' ([.string (tm ++ t0)] ++ tvs Z') → Calls Try.prog 13 #[.slice A' (1 + m) c'] W fun e w' => e = .returned (.tuple #[.string tg, .int .i64 h]) ∧ Ext W w'
  par : Tell 24 #[.string tz] (.tuple #[.string tp, .bool true])
structure ZonI (tz tn tg tp : ByteArray) : Prop where
  gz : Tell 23 #[.string tg, .string tz] (.bool false)
  gp : Tell 23 #[.string tg, .string tp] (.bool true)
  np : Tell 23 #[.string tn, .string tp] (.bool true)

set_option maxHeartbeats 16000000 in
set_option maxRecDepth 100000 in
theorem zones_wrong_one {A B : Option Addr} {c d : Nat} {K Z : List Bs} {tm : ByteArray} {tz tn tg tp : ByteArray} {b0 : Bool} {m : Nat} {h : Int} (w : World) (G : ZonF w A B c d K Z tm tz tn 0 0) (H : ZonG tz tn b0) (hb : ((K.length : Int) == 0) = b0) (hz : Z.length = 1 + m) (hm : tm.toList ≠ []) (hs : tm.size + (Z.getD 0 []).length ≤ 63) (J : ZonH (str (Z.getD 0 [])) m (Z.drop 1) tm tz tg tp h) (hm0 : m = 0) (hh : h ≠ 0) :
    Calls Try.prog 4 #[.slice A K.length c, .slice B Z.length d, .string tm] w fun e w' => e = .returned (.bool true) ∧ Below w.heap.size w w' := by
  have y1 : ((Z.length : Int) == 0) = false := by rw [beq_eq_false_iff_ne]; omega
  have y2 : (tm.toList == []) = false := by simp [hm]
  have y2' : tm.toList.isEmpty = false := by simp [hm]
  clear hm
  have zh : (h != 0) = true := by simpa using hh
  clear hh
  have HG := hid H
  have b1 : ((K.length : Int) == 0) = b0 := hb
  have b2 : (b0 != b0) = false := by simp
  clear H hb
  have HF := hid G
  have k10 := G.k10
  have z10 := G.z10
  have m60 := G.m60
  have z1 : decide ((10 : Int) < (K.length : Int)) = false := by rw [decide_eq_false_iff_not]; omega
  have z1' : decide (10 < K.length) = false := by rw [decide_eq_false_iff_not]; omega
  have z2 : decide ((10 : Int) < (Z.length : Int)) = false := by rw [decide_eq_false_iff_not]; omega
  have z2' : decide (10 < Z.length) = false := by rw [decide_eq_false_iff_not]; omega
  have z3 : decide ((60 : Int) < (tm.size : Int)) = false := by rw [decide_eq_false_iff_not]; omega
  have z3' : decide (60 < tm.size) = false := by rw [decide_eq_false_iff_not]; omega
  obtain ⟨i0, hi, hz0, hz1, hz2⟩ := info_parts info_t
  have HI := hid hi
  clear G hi
  have hiz : (0 : Int) < (Z.length : Int) := by omega
  have hiz1 : (1 : Int) ≤ (Z.length : Int) := by omega
  have hiz2 : Z.length - 1 = m := by omega
  have hiz3 : 1 ≤ Z.length := by omega
  have hiz4 : 0 < Z.length := by omega
  have hd9 := (HF.out.rz w (ext_refl w)).c_le
  have hdz := (HF.out.rz w (ext_refl w)).cap.1
  have hdm := hid (HF.out.rz w (ext_refl w)).cap.2
  obtain ⟨g, o, hB, hg, hc0⟩ := tvs_at (HF.out.rz w (ext_refl w)) (k := 0) (by omega)
  subst hB
  have HJ := hid J
  clear J
  obtain ⟨t0, ht0⟩ : ∃ t, t = str (Z.getD 0 []) := ⟨_, rfl⟩
  have hts : t0.size = (Z.getD 0 []).length := by rw [ht0, str_size]
  rw [← ht0] at hc0 HJ
  have CN := hid (fun W (hW : Ext w W) => (hW.cell (p := ⟨g, o + 0, none⟩) hg).trans hc0)
  have y3 : decide ((63 : Int) < (tm.size : Int) + (t0.size : Int)) = false := by rw [decide_eq_false_iff_not]; omega
  have y3' : decide (63 < tm.size + t0.size) = false := by rw [decide_eq_false_iff_not]; omega
  have t9 : t0.size ≤ 100 := by omega
  have t9' : tm.size + t0.size ≤ 100 := by omega
  have t9n : ¬ 9223372036854775807 < tm.size + t0.size := by omega
  clear hs ht0 hts hc0
  have hdr : Z.drop 1 = [] := List.drop_of_length_le (by omega)
  have RD := hid (fun (W : World) (A2 : Option Addr) (c2 : Nat) (hc : c2 ≤ maxLen) => show RdG W 1 A2 m c2 (tvs (Z.drop 1)) from by rw [hdr, hm0]; exact RdG.zero W 1 A2 c2 hc)
  clear hdr
  clear hz hm0
  go_enter Try.func4, Try.ntmps4
  have X := hid (ext_refl w)
  go_wp2_with fail
  (with_reducible refine (awake_in _).mono ?_)
  rintro e w2 ⟨rfl, x⟩
  have X := hid (ext_trans X.out x)
  clear x
  go_wp2_with fail
  (with_reducible refine (HF.out.l1 _ X.out).mono ?_)
  rintro e w2 ⟨rfl, x⟩
  have X := hid (ext_trans X.out x)
  clear x
  go_wp2_with fail
  (with_reducible refine (HF.out.l2 _ X.out).mono ?_)
  rintro e w2 ⟨rfl, x⟩
  have X := hid (ext_trans X.out x)
  clear x
  go_wp2_with fail
  (with_reducible refine (HF.out.jz _ X.out).mono ?_)
  rintro e w2 ⟨rfl, x⟩
  have X := hid (ext_trans X.out x)
  have hw2 := X.out.size
  clear x
  go_wp2_with fail
  (with_reducible refine (HF.out.cp _ X.out).mono ?_)
  rintro e w3 ⟨A', c', rfl, oA, x⟩
  have hb3 := x.size
  have X := hid (ext_trans X.out x)
  have OA := hid oA
  have RZ := hid (HF.out.rz _ X.out)
  have hw3 : w.heap.size ≤ w2.heap.size := by
    first | exact hw2 | (have := X.out.size; omega)
  clear x oA
  go_wp2_with ((with_reducible show wpList _ _ _ (⟨some 49, _, _, _, _, _⟩ :: _) _ _); go_must (refine wpList_append_g rfl (.tmp 47) (.tmp 48) 22 rfl w2.heap.size 9 i0 (.string ⟨#[]⟩) 1 16 Try.underlying22 HI.out hz0 hz1 hz2 rfl (by decide) (by simp [Value.cells]; exact ⟨_, rfl⟩) (fun _ h => h.one) rfl OA.out rfl RZ.out (isT_tvs Z) (by omega) (by unfold maxLen; omega) hb3 ?_); intro A4 c4 w4 o4 g4 n4)
  have R4 := OwnG.rd o4
  have X : Hid (Below w.heap.size w w4) := hid (Below.grown X.out g4 X.out.size (fun b hb => by have := (OA.out.lt b hb).1; omega))
  (with_reducible refine (HF.out.jn _ _ _ R4).mono ?_)
  rintro e w5 ⟨rfl, x⟩
  have X := hid (ext_trans X.out x)
  clear x R4 o4 g4 n4
  go_wp2_with fail
  (with_reducible refine (HG.out.nz.on _).mono ?_)
  rintro e w2 ⟨rfl, x⟩
  have X := hid (ext_trans X.out x)
  clear x
  go_wp2_with fail
  (with_reducible refine (HG.out.zn.on _).mono ?_)
  rintro e w2 ⟨rfl, x⟩
  have X := hid (ext_trans X.out x)
  clear x
  have k0 := CN.out _ X.out
  rw [Nat.add_zero] at k0
  have RZ5 := hid (HF.out.rz _ X.out)
  have hw5 := X.out.size
  generalize w2 = w7 at *
  by_cases hd1 : d = 1
  · have hq : (d = 1) = True := eq_true hd1
    clear hd1
    have HW := hid (OwnG.new (ok := isT) (base := w7.heap.size) (size := 1) (e := 9) w7 [.string (tm ++ t0)] 1 1 (Nat.le_refl _) rfl (Nat.le_refl _) (by simp [maxLen]) (by intro u hu; rw [List.mem_singleton] at hu; exact ⟨_, hu⟩))
    go_wp2_with fail
    go_region_law ((refine step_append_g rfl (.tmp 96) (.tmp 98) 22 rfl w7.heap.size 9 i0 (.string ⟨#[]⟩) 1 16 Try.underlying22 HI.out hz0 hz1 hz2 rfl (by decide) (by simp [Value.cells]; exact ⟨_, rfl⟩) (fun _ h => h.one) rfl (HW.out.ext (ext_drew _)) rfl (RD.out _ _ _ (Nat.le_trans (Nat.sub_le _ _) hdm.out)) (isT_tvs _) (by omega) (by unfold maxLen; omega) (by simp) ?_; intro A6 c6 w6 o6 g6 n6))
    have R6 := OwnG.rd o6
    have X : Hid (Below w.heap.size w w6) := hid (below_of_grown (Below.trans X.out ((ext_trans (ext_alloc w7 (.cells #[.string (tm ++ t0)] 9)) (ext_drew _)).mono hw5)) (by have := (ext_trans (ext_alloc w7 (.cells #[.string (tm ++ t0)] 9)) (ext_drew _)).size; omega) g6 (fun b hb => by simp at hb; omega))
    have JG := hid (HJ.out.jg _ _ _ R6)
    clear R6 o6 g6 n6 k0
    go_wp2_with fail
    (with_reducible refine JG.out.mono ?_)
    rintro e w8 ⟨rfl, x⟩
    have X := hid (ext_trans X.out x)
    clear x
    go_wp2_with fail
    (with_reducible refine (HJ.out.par.on _).mono ?_)
    rintro e w2 ⟨rfl, x⟩
    have X := hid (ext_trans X.out x)
    clear x
    go_wp2_with fail
    go_ret
    exact ⟨rfl, X.out⟩
  · have HW := hid (OwnG.new (ok := isT) (base := w7.heap.size) (size := 1) (e := 9) w7 [.string (tm ++ t0)] 1 1 (Nat.le_refl _) rfl (Nat.le_refl _) (by simp [maxLen]) (by intro u hu; rw [List.mem_singleton] at hu; exact ⟨_, hu⟩))
    go_wp2_with fail
    go_region_law ((refine step_append_g rfl (.tmp 96) (.tmp 98) 22 rfl w7.heap.size 9 i0 (.string ⟨#[]⟩) 1 16 Try.underlying22 HI.out hz0 hz1 hz2 rfl (by decide) (by simp [Value.cells]; exact ⟨_, rfl⟩) (fun _ h => h.one) rfl (HW.out.ext (ext_drew _)) rfl (RD.out _ _ _ (Nat.le_trans (Nat.sub_le _ _) hdm.out)) (isT_tvs _) (by omega) (by unfold maxLen; omega) (by simp) ?_; intro A6 c6 w6 o6 g6 n6))
    have R6 := OwnG.rd o6
    have X : Hid (Below w.heap.size w w6) := hid (below_of_grown (Below.trans X.out ((ext_trans (ext_alloc w7 (.cells #[.string (tm ++ t0)] 9)) (ext_drew _)).mono hw5)) (by have := (ext_trans (ext_alloc w7 (.cells #[.string (tm ++ t0)] 9)) (ext_drew _)).size; omega) g6 (fun b hb => by simp at hb; omega))
    have JG := hid (HJ.out.jg _ _ _ R6)
    clear R6 o6 g6 n6 k0
    go_wp2_with fail
    (with_reducible refine JG.out.mono ?_)
    rintro e w8 ⟨rfl, x⟩
    have X := hid (ext_trans X.out x)
    clear x
    go_wp2_with fail
    (with_reducible refine (HJ.out.par.on _).mono ?_)
    rintro e w2 ⟨rfl, x⟩
    have X := hid (ext_trans X.out x)
    clear x
    go_wp2_with fail
    go_ret
    exact ⟨rfl, X.out⟩

set_option maxHeartbeats 16000000 in
set_option maxRecDepth 100000 in
theorem zones_wrong_more {A B : Option Addr} {c d : Nat} {K Z : List Bs} {tm : ByteArray} {tz tn tg tp : ByteArray} {b0 : Bool} {m : Nat} {h : Int} (w : World) (G : ZonF w A B c d K Z tm tz tn 0 0) (H : ZonG tz tn b0) (hb : ((K.length : Int) == 0) = b0) (hz : Z.length = 1 + m) (hm : tm.toList ≠ []) (hs : tm.size + (Z.getD 0 []).length ≤ 63) (J : ZonH (str (Z.getD 0 [])) m (Z.drop 1) tm tz tg tp h) (hm0 : m ≠ 0) (hh : h ≠ 0) :
    Calls Try.prog 4 #[.slice A K.length c, .slice B Z.length d, .string tm] w fun e w' => e = .returned (.bool true) ∧ Below w.heap.size w w' := by
  have y1 : ((Z.length : Int) == 0) = false := by rw [beq_eq_false_iff_ne]; omega
  have y2 : (tm.toList == []) = false := by simp [hm]
  have y2' : tm.toList.isEmpty = false := by simp [hm]
  clear hm
  have zh : (h != 0) = true := by simpa using hh
  clear hh
  have HG := hid H
  have b1 : ((K.length : Int) == 0) = b0 := hb
  have b2 : (b0 != b0) = false := by simp
  clear H hb
  have HF := hid G
  have k10 := G.k10
  have z10 := G.z10
  have m60 := G.m60
  have z1 : decide ((10 : Int) < (K.length : Int)) = false := by rw [decide_eq_false_iff_not]; omega
  have z1' : decide (10 < K.length) = false := by rw [decide_eq_false_iff_not]; omega
  have z2 : decide ((10 : Int) < (Z.length : Int)) = false := by rw [decide_eq_false_iff_not]; omega
  have z2' : decide (10 < Z.length) = false := by rw [decide_eq_false_iff_not]; omega
  have z3 : decide ((60 : Int) < (tm.size : Int)) = false := by rw [decide_eq_false_iff_not]; omega
  have z3' : decide (60 < tm.size) = false := by rw [decide_eq_false_iff_not]; omega
  obtain ⟨i0, hi, hz0, hz1, hz2⟩ := info_parts info_t
  have HI := hid hi
  clear G hi
  have hiz : (0 : Int) < (Z.length : Int) := by omega
  have hiz1 : (1 : Int) ≤ (Z.length : Int) := by omega
  have hiz2 : Z.length - 1 = m := by omega
  have hiz3 : 1 ≤ Z.length := by omega
  have hiz4 : 0 < Z.length := by omega
  have hd9 := (HF.out.rz w (ext_refl w)).c_le
  have hdz := (HF.out.rz w (ext_refl w)).cap.1
  have hdm := hid (HF.out.rz w (ext_refl w)).cap.2
  obtain ⟨g, o, hB, hg, hc0⟩ := tvs_at (HF.out.rz w (ext_refl w)) (k := 0) (by omega)
  subst hB
  have HJ := hid J
  clear J
  obtain ⟨t0, ht0⟩ : ∃ t, t = str (Z.getD 0 []) := ⟨_, rfl⟩
  have hts : t0.size = (Z.getD 0 []).length := by rw [ht0, str_size]
  rw [← ht0] at hc0 HJ
  have CN := hid (fun W (hW : Ext w W) => (hW.cell (p := ⟨g, o + 0, none⟩) hg).trans hc0)
  have y3 : decide ((63 : Int) < (tm.size : Int) + (t0.size : Int)) = false := by rw [decide_eq_false_iff_not]; omega
  have y3' : decide (63 < tm.size + t0.size) = false := by rw [decide_eq_false_iff_not]; omega
  have t9 : t0.size ≤ 100 := by omega
  have t9' : tm.size + t0.size ≤ 100 := by omega
  have t9n : ¬ 9223372036854775807 < tm.size + t0.size := by omega
  clear hs ht0 hts hc0
  have hd1 : ¬ d = 1 := by omega
  have RD := hid (fun (W : World) (hW : RdG W 1 (some ⟨g, o, none⟩) Z.length d (tvs Z)) => show RdG W 1 (some ⟨g, o + 1, none⟩) m (d - 1) (tvs (Z.drop 1)) from by
    have hcut := RdG.cut hW (i := 1) (j := Z.length) hiz3 (Nat.le_refl _) (A' := some ⟨g, o + 1, none⟩) (fun _ => by simp [Addr.add])
    rw [hiz2, List.take_of_length_le (by rw [tvs_length]; omega)] at hcut
    have e : tvs (Z.drop 1) = (tvs Z).drop (1 * 1) := by simp [tvs]
    rw [e]
    exact hcut)
  clear hz hm0
  go_enter Try.func4, Try.ntmps4
  have X := hid (ext_refl w)
  go_wp2_with fail
  (with_reducible refine (awake_in _).mono ?_)
  rintro e w2 ⟨rfl, x⟩
  have X := hid (ext_trans X.out x)
  clear x
  go_wp2_with fail
  (with_reducible refine (HF.out.l1 _ X.out).mono ?_)
  rintro e w2 ⟨rfl, x⟩
  have X := hid (ext_trans X.out x)
  clear x
  go_wp2_with fail
  (with_reducible refine (HF.out.l2 _ X.out).mono ?_)
  rintro e w2 ⟨rfl, x⟩
  have X := hid (ext_trans X.out x)
  clear x
  go_wp2_with fail
  (with_reducible refine (HF.out.jz _ X.out).mono ?_)
  rintro e w2 ⟨rfl, x⟩
  have X := hid (ext_trans X.out x)
  have hw2 := X.out.size
  clear x
  go_wp2_with fail
  (with_reducible refine (HF.out.cp _ X.out).mono ?_)
  rintro e w3 ⟨A', c', rfl, oA, x⟩
  have hb3 := x.size
  have X := hid (ext_trans X.out x)
  have OA := hid oA
  have RZ := hid (HF.out.rz _ X.out)
  have hw3 : w.heap.size ≤ w2.heap.size := by
    first | exact hw2 | (have := X.out.size; omega)
  clear x oA
  go_wp2_with ((with_reducible show wpList _ _ _ (⟨some 49, _, _, _, _, _⟩ :: _) _ _); go_must (refine wpList_append_g rfl (.tmp 47) (.tmp 48) 22 rfl w2.heap.size 9 i0 (.string ⟨#[]⟩) 1 16 Try.underlying22 HI.out hz0 hz1 hz2 rfl (by decide) (by simp [Value.cells]; exact ⟨_, rfl⟩) (fun _ h => h.one) rfl OA.out rfl RZ.out (isT_tvs Z) (by omega) (by unfold maxLen; omega) hb3 ?_); intro A4 c4 w4 o4 g4 n4)
  have R4 := OwnG.rd o4
  have X : Hid (Below w.heap.size w w4) := hid (Below.grown X.out g4 X.out.size (fun b hb => by have := (OA.out.lt b hb).1; omega))
  (with_reducible refine (HF.out.jn _ _ _ R4).mono ?_)
  rintro e w5 ⟨rfl, x⟩
  have X := hid (ext_trans X.out x)
  clear x R4 o4 g4 n4
  go_wp2_with fail
  (with_reducible refine (HG.out.nz.on _).mono ?_)
  rintro e w2 ⟨rfl, x⟩
  have X := hid (ext_trans X.out x)
  clear x
  go_wp2_with fail
  (with_reducible refine (HG.out.zn.on _).mono ?_)
  rintro e w2 ⟨rfl, x⟩
  have X := hid (ext_trans X.out x)
  clear x
  have k0 := CN.out _ X.out
  rw [Nat.add_zero] at k0
  have RZ5 := hid (HF.out.rz _ X.out)
  have hw5 := X.out.size
  generalize w2 = w7 at *
  have HW := hid (OwnG.new (ok := isT) (base := w7.heap.size) (size := 1) (e := 9) w7 [.string (tm ++ t0)] 1 1 (Nat.le_refl _) rfl (Nat.le_refl _) (by simp [maxLen]) (by intro u hu; rw [List.mem_singleton] at hu; exact ⟨_, hu⟩))
  go_wp2_with fail
  go_region_law ((refine step_append_g rfl (.tmp 96) (.tmp 98) 22 rfl w7.heap.size 9 i0 (.string ⟨#[]⟩) 1 16 Try.underlying22 HI.out hz0 hz1 hz2 rfl (by decide) (by simp [Value.cells]; exact ⟨_, rfl⟩) (fun _ h => h.one) rfl (HW.out.ext (ext_drew _)) rfl (RD.out _ (RZ5.out.ext (ext_trans (ext_alloc _ _) (ext_drew _)))) (isT_tvs _) (by omega) (by unfold maxLen; omega) (by simp) ?_; intro A6 c6 w6 o6 g6 n6))
  have R6 := OwnG.rd o6
  have X : Hid (Below w.heap.size w w6) := hid (below_of_grown (Below.trans X.out ((ext_trans (ext_alloc w7 (.cells #[.string (tm ++ t0)] 9)) (ext_drew _)).mono hw5)) (by have := (ext_trans (ext_alloc w7 (.cells #[.string (tm ++ t0)] 9)) (ext_drew _)).size; omega) g6 (fun b hb => by simp at hb; omega))
  have JG := hid (HJ.out.jg _ _ _ R6)
  clear R6 o6 g6 n6 k0
  go_wp2_with fail
  (with_reducible refine JG.out.mono ?_)
  rintro e w8 ⟨rfl, x⟩
  have X := hid (ext_trans X.out x)
  clear x
  go_wp2_with fail
  (with_reducible refine (HJ.out.par.on _).mono ?_)
  rintro e w2 ⟨rfl, x⟩
  have X := hid (ext_trans X.out x)
  clear x
  go_wp2_with fail
  go_ret
  exact ⟨rfl, X.out⟩

set_option maxHeartbeats 16000000 in
set_option maxRecDepth 100000 in
theorem zones_full_one {A B : Option Addr} {c d : Nat} {K Z : List Bs} {tm : ByteArray} {tz tn tg tp : ByteArray} {b0 : Bool} {m : Nat}  (w : World) (G : ZonF w A B c d K Z tm tz tn 0 0) (H : ZonG tz tn b0) (hb : ((K.length : Int) == 0) = b0) (hz : Z.length = 1 + m) (hm : tm.toList ≠ []) (hs : tm.size + (Z.getD 0 []).length ≤ 63) (J : ZonH (str (Z.getD 0 [])) m (Z.drop 1) tm tz tg tp 0) (hm0 : m = 0) (I : ZonI tz tn tg tp) :
    Calls Try.prog 4 #[.slice A K.length c, .slice B Z.length d, .string tm] w fun e w' => e = .returned (.bool true) ∧ Below w.heap.size w w' := by
  have y1 : ((Z.length : Int) == 0) = false := by rw [beq_eq_false_iff_ne]; omega
  have y2 : (tm.toList == []) = false := by simp [hm]
  have y2' : tm.toList.isEmpty = false := by simp [hm]
  clear hm
  have HII := hid I
  clear I
  have HG := hid H
  have b1 : ((K.length : Int) == 0) = b0 := hb
  have b2 : (b0 != b0) = false := by simp
  clear H hb
  have HF := hid G
  have k10 := G.k10
  have z10 := G.z10
  have m60 := G.m60
  have z1 : decide ((10 : Int) < (K.length : Int)) = false := by rw [decide_eq_false_iff_not]; omega
  have z1' : decide (10 < K.length) = false := by rw [decide_eq_false_iff_not]; omega
  have z2 : decide ((10 : Int) < (Z.length : Int)) = false := by rw [decide_eq_false_iff_not]; omega
  have z2' : decide (10 < Z.length) = false := by rw [decide_eq_false_iff_not]; omega
  have z3 : decide ((60 : Int) < (tm.size : Int)) = false := by rw [decide_eq_false_iff_not]; omega
  have z3' : decide (60 < tm.size) = false := by rw [decide_eq_false_iff_not]; omega
  obtain ⟨i0, hi, hz0, hz1, hz2⟩ := info_parts info_t
  have HI := hid hi
  clear G hi
  have hiz : (0 : Int) < (Z.length : Int) := by omega
  have hiz1 : (1 : Int) ≤ (Z.length : Int) := by omega
  have hiz2 : Z.length - 1 = m := by omega
  have hiz3 : 1 ≤ Z.length := by omega
  have hiz4 : 0 < Z.length := by omega
  have hd9 := (HF.out.rz w (ext_refl w)).c_le
  have hdz := (HF.out.rz w (ext_refl w)).cap.1
  have hdm := hid (HF.out.rz w (ext_refl w)).cap.2
  obtain ⟨g, o, hB, hg, hc0⟩ := tvs_at (HF.out.rz w (ext_refl w)) (k := 0) (by omega)
  subst hB
  have HJ := hid J
  clear J
  obtain ⟨t0, ht0⟩ : ∃ t, t = str (Z.getD 0 []) := ⟨_, rfl⟩
  have hts : t0.size = (Z.getD 0 []).length := by rw [ht0, str_size]
  rw [← ht0] at hc0 HJ
  have CN := hid (fun W (hW : Ext w W) => (hW.cell (p := ⟨g, o + 0, none⟩) hg).trans hc0)
  have y3 : decide ((63 : Int) < (tm.size : Int) + (t0.size : Int)) = false := by rw [decide_eq_false_iff_not]; omega
  have y3' : decide (63 < tm.size + t0.size) = false := by rw [decide_eq_false_iff_not]; omega
  have t9 : t0.size ≤ 100 := by omega
  have t9' : tm.size + t0.size ≤ 100 := by omega
  have t9n : ¬ 9223372036854775807 < tm.size + t0.size := by omega
  clear hs ht0 hts hc0
  have hdr : Z.drop 1 = [] := List.drop_of_length_le (by omega)
  have RD := hid (fun (W : World) (A2 : Option Addr) (c2 : Nat) (hc : c2 ≤ maxLen) => show RdG W 1 A2 m c2 (tvs (Z.drop 1)) from by rw [hdr, hm0]; exact RdG.zero W 1 A2 c2 hc)
  clear hdr
  clear hz hm0
  go_enter Try.func4, Try.ntmps4
  have X := hid (ext_refl w)
  go_wp2_with fail
  (with_reducible refine (awake_in _).mono ?_)
  rintro e w2 ⟨rfl, x⟩
  have X := hid (ext_trans X.out x)
  clear x
  go_wp2_with fail
  (with_reducible refine (HF.out.l1 _ X.out).mono ?_)
  rintro e w2 ⟨rfl, x⟩
  have X := hid (ext_trans X.out x)
  clear x
  go_wp2_with fail
  (with_reducible refine (HF.out.l2 _ X.out).mono ?_)
  rintro e w2 ⟨rfl, x⟩
  have X := hid (ext_trans X.out x)
  clear x
  go_wp2_with fail
  (with_reducible refine (HF.out.jz _ X.out).mono ?_)
  rintro e w2 ⟨rfl, x⟩
  have X := hid (ext_trans X.out x)
  have hw2 := X.out.size
  clear x
  go_wp2_with fail
  (with_reducible refine (HF.out.cp _ X.out).mono ?_)
  rintro e w3 ⟨A', c', rfl, oA, x⟩
  have hb3 := x.size
  have X := hid (ext_trans X.out x)
  have OA := hid oA
  have RZ := hid (HF.out.rz _ X.out)
  have hw3 : w.heap.size ≤ w2.heap.size := by
    first | exact hw2 | (have := X.out.size; omega)
  clear x oA
  go_wp2_with ((with_reducible show wpList _ _ _ (⟨some 49, _, _, _, _, _⟩ :: _) _ _); go_must (refine wpList_append_g rfl (.tmp 47) (.tmp 48) 22 rfl w2.heap.size 9 i0 (.string ⟨#[]⟩) 1 16 Try.underlying22 HI.out hz0 hz1 hz2 rfl (by decide) (by simp [Value.cells]; exact ⟨_, rfl⟩) (fun _ h => h.one) rfl OA.out rfl RZ.out (isT_tvs Z) (by omega) (by unfold maxLen; omega) hb3 ?_); intro A4 c4 w4 o4 g4 n4)
  have R4 := OwnG.rd o4
  have X : Hid (Below w.heap.size w w4) := hid (Below.grown X.out g4 X.out.size (fun b hb => by have := (OA.out.lt b hb).1; omega))
  (with_reducible refine (HF.out.jn _ _ _ R4).mono ?_)
  rintro e w5 ⟨rfl, x⟩
  have X := hid (ext_trans X.out x)
  clear x R4 o4 g4 n4
  go_wp2_with fail
  (with_reducible refine (HG.out.nz.on _).mono ?_)
  rintro e w2 ⟨rfl, x⟩
  have X := hid (ext_trans X.out x)
  clear x
  go_wp2_with fail
  (with_reducible refine (HG.out.zn.on _).mono ?_)
  rintro e w2 ⟨rfl, x⟩
  have X := hid (ext_trans X.out x)
  clear x
  have k0 := CN.out _ X.out
  rw [Nat.add_zero] at k0
  have RZ5 := hid (HF.out.rz _ X.out)
  have hw5 := X.out.size
  generalize w2 = w7 at *
  by_cases hd1 : d = 1
  · have hq : (d = 1) = True := eq_true hd1
    clear hd1
    have HW := hid (OwnG.new (ok := isT) (base := w7.heap.size) (size := 1) (e := 9) w7 [.string (tm ++ t0)] 1 1 (Nat.le_refl _) rfl (Nat.le_refl _) (by simp [maxLen]) (by intro u hu; rw [List.mem_singleton] at hu; exact ⟨_, hu⟩))
    go_wp2_with fail
    go_region_law ((refine step_append_g rfl (.tmp 96) (.tmp 98) 22 rfl w7.heap.size 9 i0 (.string ⟨#[]⟩) 1 16 Try.underlying22 HI.out hz0 hz1 hz2 rfl (by decide) (by simp [Value.cells]; exact ⟨_, rfl⟩) (fun _ h => h.one) rfl (HW.out.ext (ext_drew _)) rfl (RD.out _ _ _ (Nat.le_trans (Nat.sub_le _ _) hdm.out)) (isT_tvs _) (by omega) (by unfold maxLen; omega) (by simp) ?_; intro A6 c6 w6 o6 g6 n6))
    have R6 := OwnG.rd o6
    have X : Hid (Below w.heap.size w w6) := hid (below_of_grown (Below.trans X.out ((ext_trans (ext_alloc w7 (.cells #[.string (tm ++ t0)] 9)) (ext_drew _)).mono hw5)) (by have := (ext_trans (ext_alloc w7 (.cells #[.string (tm ++ t0)] 9)) (ext_drew _)).size; omega) g6 (fun b hb => by simp at hb; omega))
    have JG := hid (HJ.out.jg _ _ _ R6)
    clear R6 o6 g6 n6 k0
    go_wp2_with fail
    (with_reducible refine JG.out.mono ?_)
    rintro e w8 ⟨rfl, x⟩
    have X := hid (ext_trans X.out x)
    clear x
    go_wp2_with fail
    (with_reducible refine (HJ.out.par.on _).mono ?_)
    rintro e w2 ⟨rfl, x⟩
    have X := hid (ext_trans X.out x)
    clear x
    go_wp2_with fail
    (with_reducible refine (HII.out.gz.on _).mono ?_)
    rintro e w2 ⟨rfl, x⟩
    have X := hid (ext_trans X.out x)
    clear x
    go_wp2_with fail
    (with_reducible refine (HII.out.gp.on _).mono ?_)
    rintro e w2 ⟨rfl, x⟩
    have X := hid (ext_trans X.out x)
    clear x
    go_wp2_with fail
    (with_reducible refine (HII.out.np.on _).mono ?_)
    rintro e w2 ⟨rfl, x⟩
    have X := hid (ext_trans X.out x)
    clear x
    go_wp2_with fail
    go_ret
    exact ⟨rfl, X.out⟩
  · have HW := hid (OwnG.new (ok := isT) (base := w7.heap.size) (size := 1) (e := 9) w7 [.string (tm ++ t0)] 1 1 (Nat.le_refl _) rfl (Nat.le_refl _) (by simp [maxLen]) (by intro u hu; rw [List.mem_singleton] at hu; exact ⟨_, hu⟩))
    go_wp2_with fail
    go_region_law ((refine step_append_g rfl (.tmp 96) (.tmp 98) 22 rfl w7.heap.size 9 i0 (.string ⟨#[]⟩) 1 16 Try.underlying22 HI.out hz0 hz1 hz2 rfl (by decide) (by simp [Value.cells]; exact ⟨_, rfl⟩) (fun _ h => h.one) rfl (HW.out.ext (ext_drew _)) rfl (RD.out _ _ _ (Nat.le_trans (Nat.sub_le _ _) hdm.out)) (isT_tvs _) (by omega) (by unfold maxLen; omega) (by simp) ?_; intro A6 c6 w6 o6 g6 n6))
    have R6 := OwnG.rd o6
    have X : Hid (Below w.heap.size w w6) := hid (below_of_grown (Below.trans X.out ((ext_trans (ext_alloc w7 (.cells #[.string (tm ++ t0)] 9)) (ext_drew _)).mono hw5)) (by have := (ext_trans (ext_alloc w7 (.cells #[.string (tm ++ t0)] 9)) (ext_drew _)).size; omega) g6 (fun b hb => by simp at hb; omega))
    have JG := hid (HJ.out.jg _ _ _ R6)
    clear R6 o6 g6 n6 k0
    go_wp2_with fail
    (with_reducible refine JG.out.mono ?_)
    rintro e w8 ⟨rfl, x⟩
    have X := hid (ext_trans X.out x)
    clear x
    go_wp2_with fail
    (with_reducible refine (HJ.out.par.on _).mono ?_)
    rintro e w2 ⟨rfl, x⟩
    have X := hid (ext_trans X.out x)
    clear x
    go_wp2_with fail
    (with_reducible refine (HII.out.gz.on _).mono ?_)
    rintro e w2 ⟨rfl, x⟩
    have X := hid (ext_trans X.out x)
    clear x
    go_wp2_with fail
    (with_reducible refine (HII.out.gp.on _).mono ?_)
    rintro e w2 ⟨rfl, x⟩
    have X := hid (ext_trans X.out x)
    clear x
    go_wp2_with fail
    (with_reducible refine (HII.out.np.on _).mono ?_)
    rintro e w2 ⟨rfl, x⟩
    have X := hid (ext_trans X.out x)
    clear x
    go_wp2_with fail
    go_ret
    exact ⟨rfl, X.out⟩

set_option maxHeartbeats 16000000 in
set_option maxRecDepth 100000 in
theorem zones_full_more {A B : Option Addr} {c d : Nat} {K Z : List Bs} {tm : ByteArray} {tz tn tg tp : ByteArray} {b0 : Bool} {m : Nat}  (w : World) (G : ZonF w A B c d K Z tm tz tn 0 0) (H : ZonG tz tn b0) (hb : ((K.length : Int) == 0) = b0) (hz : Z.length = 1 + m) (hm : tm.toList ≠ []) (hs : tm.size + (Z.getD 0 []).length ≤ 63) (J : ZonH (str (Z.getD 0 [])) m (Z.drop 1) tm tz tg tp 0) (hm0 : m ≠ 0) (I : ZonI tz tn tg tp) :
    Calls Try.prog 4 #[.slice A K.length c, .slice B Z.length d, .string tm] w fun e w' => e = .returned (.bool true) ∧ Below w.heap.size w w' := by
  have y1 : ((Z.length : Int) == 0) = false := by rw [beq_eq_false_iff_ne]; omega
  have y2 : (tm.toList == []) = false := by simp [hm]
  have y2' : tm.toList.isEmpty = false := by simp [hm]
  clear hm
  have HII := hid I
  clear I
  have HG := hid H
  have b1 : ((K.length : Int) == 0) = b0 := hb
  have b2 : (b0 != b0) = false := by simp
  clear H hb
  have HF := hid G
  have k10 := G.k10
  have z10 := G.z10
  have m60 := G.m60
  have z1 : decide ((10 : Int) < (K.length : Int)) = false := by rw [decide_eq_false_iff_not]; omega
  have z1' : decide (10 < K.length) = false := by rw [decide_eq_false_iff_not]; omega
  have z2 : decide ((10 : Int) < (Z.length : Int)) = false := by rw [decide_eq_false_iff_not]; omega
  have z2' : decide (10 < Z.length) = false := by rw [decide_eq_false_iff_not]; omega
  have z3 : decide ((60 : Int) < (tm.size : Int)) = false := by rw [decide_eq_false_iff_not]; omega
  have z3' : decide (60 < tm.size) = false := by rw [decide_eq_false_iff_not]; omega
  obtain ⟨i0, hi, hz0, hz1, hz2⟩ := info_parts info_t
  have HI := hid hi
  clear G hi
  have hiz : (0 : Int) < (Z.length : Int) := by omega
  have hiz1 : (1 : Int) ≤ (Z.length : Int) := by omega
  have hiz2 : Z.length - 1 = m := by omega
  have hiz3 : 1 ≤ Z.length := by omega
  have hiz4 : 0 < Z.length := by omega
  have hd9 := (HF.out.rz w (ext_refl w)).c_le
  have hdz := (HF.out.rz w (ext_refl w)).cap.1
  have hdm := hid (HF.out.rz w (ext_refl w)).cap.2
  obtain ⟨g, o, hB, hg, hc0⟩ := tvs_at (HF.out.rz w (ext_refl w)) (k := 0) (by omega)
  subst hB
  have HJ := hid J
  clear J
  obtain ⟨t0, ht0⟩ : ∃ t, t = str (Z.getD 0 []) := ⟨_, rfl⟩
  have hts : t0.size = (Z.getD 0 []).length := by rw [ht0, str_size]
  rw [← ht0] at hc0 HJ
  have CN := hid (fun W (hW : Ext w W) => (hW.cell (p := ⟨g, o + 0, none⟩) hg).trans hc0)
  have y3 : decide ((63 : Int) < (tm.size : Int) + (t0.size : Int)) = false := by rw [decide_eq_false_iff_not]; omega
  have y3' : decide (63 < tm.size + t0.size) = false := by rw [decide_eq_false_iff_not]; omega
  have t9 : t0.size ≤ 100 := by omega
  have t9' : tm.size + t0.size ≤ 100 := by omega
  have t9n : ¬ 9223372036854775807 < tm.size + t0.size := by omega
  clear hs ht0 hts hc0
  have hd1 : ¬ d = 1 := by omega
  have RD := hid (fun (W : World) (hW : RdG W 1 (some ⟨g, o, none⟩) Z.length d (tvs Z)) => show RdG W 1 (some ⟨g, o + 1, none⟩) m (d - 1) (tvs (Z.drop 1)) from by
    have hcut := RdG.cut hW (i := 1) (j := Z.length) hiz3 (Nat.le_refl _) (A' := some ⟨g, o + 1, none⟩) (fun _ => by simp [Addr.add])
    rw [hiz2, List.take_of_length_le (by rw [tvs_length]; omega)] at hcut
    have e : tvs (Z.drop 1) = (tvs Z).drop (1 * 1) := by simp [tvs]
    rw [e]
    exact hcut)
  clear hz hm0
  go_enter Try.func4, Try.ntmps4
  have X := hid (ext_refl w)
  go_wp2_with fail
  (with_reducible refine (awake_in _).mono ?_)
  rintro e w2 ⟨rfl, x⟩
  have X := hid (ext_trans X.out x)
  clear x
  go_wp2_with fail
  (with_reducible refine (HF.out.l1 _ X.out).mono ?_)
  rintro e w2 ⟨rfl, x⟩
  have X := hid (ext_trans X.out x)
  clear x
  go_wp2_with fail
  (with_reducible refine (HF.out.l2 _ X.out).mono ?_)
  rintro e w2 ⟨rfl, x⟩
  have X := hid (ext_trans X.out x)
  clear x
  go_wp2_with fail
  (with_reducible refine (HF.out.jz _ X.out).mono ?_)
  rintro e w2 ⟨rfl, x⟩
  have X := hid (ext_trans X.out x)
  have hw2 := X.out.size
  clear x
  go_wp2_with fail
  (with_reducible refine (HF.out.cp _ X.out).mono ?_)
  rintro e w3 ⟨A', c', rfl, oA, x⟩
  have hb3 := x.size
  have X := hid (ext_trans X.out x)
  have OA := hid oA
  have RZ := hid (HF.out.rz _ X.out)
  have hw3 : w.heap.size ≤ w2.heap.size := by
    first | exact hw2 | (have := X.out.size; omega)
  clear x oA
  go_wp2_with ((with_reducible show wpList _ _ _ (⟨some 49, _, _, _, _, _⟩ :: _) _ _); go_must (refine wpList_append_g rfl (.tmp 47) (.tmp 48) 22 rfl w2.heap.size 9 i0 (.string ⟨#[]⟩) 1 16 Try.underlying22 HI.out hz0 hz1 hz2 rfl (by decide) (by simp [Value.cells]; exact ⟨_, rfl⟩) (fun _ h => h.one) rfl OA.out rfl RZ.out (isT_tvs Z) (by omega) (by unfold maxLen; omega) hb3 ?_); intro A4 c4 w4 o4 g4 n4)
  have R4 := OwnG.rd o4
  have X : Hid (Below w.heap.size w w4) := hid (Below.grown X.out g4 X.out.size (fun b hb => by have := (OA.out.lt b hb).1; omega))
  (with_reducible refine (HF.out.jn _ _ _ R4).mono ?_)
  rintro e w5 ⟨rfl, x⟩
  have X := hid (ext_trans X.out x)
  clear x R4 o4 g4 n4
  go_wp2_with fail
  (with_reducible refine (HG.out.nz.on _).mono ?_)
  rintro e w2 ⟨rfl, x⟩
  have X := hid (ext_trans X.out x)
  clear x
  go_wp2_with fail
  (with_reducible refine (HG.out.zn.on _).mono ?_)
  rintro e w2 ⟨rfl, x⟩
  have X := hid (ext_trans X.out x)
  clear x
  have k0 := CN.out _ X.out
  rw [Nat.add_zero] at k0
  have RZ5 := hid (HF.out.rz _ X.out)
  have hw5 := X.out.size
  generalize w2 = w7 at *
  have HW := hid (OwnG.new (ok := isT) (base := w7.heap.size) (size := 1) (e := 9) w7 [.string (tm ++ t0)] 1 1 (Nat.le_refl _) rfl (Nat.le_refl _) (by simp [maxLen]) (by intro u hu; rw [List.mem_singleton] at hu; exact ⟨_, hu⟩))
  go_wp2_with fail
  go_region_law ((refine step_append_g rfl (.tmp 96) (.tmp 98) 22 rfl w7.heap.size 9 i0 (.string ⟨#[]⟩) 1 16 Try.underlying22 HI.out hz0 hz1 hz2 rfl (by decide) (by simp [Value.cells]; exact ⟨_, rfl⟩) (fun _ h => h.one) rfl (HW.out.ext (ext_drew _)) rfl (RD.out _ (RZ5.out.ext (ext_trans (ext_alloc _ _) (ext_drew _)))) (isT_tvs _) (by omega) (by unfold maxLen; omega) (by simp) ?_; intro A6 c6 w6 o6 g6 n6))
  have R6 := OwnG.rd o6
  have X : Hid (Below w.heap.size w w6) := hid (below_of_grown (Below.trans X.out ((ext_trans (ext_alloc w7 (.cells #[.string (tm ++ t0)] 9)) (ext_drew _)).mono hw5)) (by have := (ext_trans (ext_alloc w7 (.cells #[.string (tm ++ t0)] 9)) (ext_drew _)).size; omega) g6 (fun b hb => by simp at hb; omega))
  have JG := hid (HJ.out.jg _ _ _ R6)
  clear R6 o6 g6 n6 k0
  go_wp2_with fail
  (with_reducible refine JG.out.mono ?_)
  rintro e w8 ⟨rfl, x⟩
  have X := hid (ext_trans X.out x)
  clear x
  go_wp2_with fail
  (with_reducible refine (HJ.out.par.on _).mono ?_)
  rintro e w2 ⟨rfl, x⟩
  have X := hid (ext_trans X.out x)
  clear x
  go_wp2_with fail
  (with_reducible refine (HII.out.gz.on _).mono ?_)
  rintro e w2 ⟨rfl, x⟩
  have X := hid (ext_trans X.out x)
  clear x
  go_wp2_with fail
  (with_reducible refine (HII.out.gp.on _).mono ?_)
  rintro e w2 ⟨rfl, x⟩
  have X := hid (ext_trans X.out x)
  clear x
  go_wp2_with fail
  (with_reducible refine (HII.out.np.on _).mono ?_)
  rintro e w2 ⟨rfl, x⟩
  have X := hid (ext_trans X.out x)
  clear x
  go_wp2_with fail
  go_ret
  exact ⟨rfl, X.out⟩
end Go.Proofs.Ytcgcadhnecakaaa

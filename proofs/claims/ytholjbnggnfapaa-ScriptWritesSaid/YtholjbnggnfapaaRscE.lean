/- Layer 29: the document's put, join, Same. -/
import Derived.Test.YtholjbnggnfapaaScrN
namespace Go.Proofs.Ytholjbnggnfapaa
open Go.BK Go.BK.SC Go.RowKit Go.Maps
set_option linter.unusedVariables false
set_option linter.unusedSimpArgs false
def PtRel (w : World) (base : Nat) (x : Int) (sz : Nat) (ov iv : Value) (wr : World) : Prop :=
  ∃ O co q, ov = .slice O q.length co ∧ Own wr base 5 O co q ∧ Ext w wr ∧ ((∃ i : Nat, i < sz ∧ iv = .int .i64 (i : Nat) ∧ q = (be x sz).take (sz - 1 - i)) ∨ (iv = .int .i64 (-1) ∧ q = be x sz))
set_option maxHeartbeats 2000000 in
set_option maxRecDepth 100000 in
theorem rf_put (x : Int) (sz : Nat) (w : World) (h1 : 1 ≤ sz) (h4 : sz ≤ 4) : Calls Try.prog 42 #[.int .i64 x, .int .i64 sz] w fun r w' => ∃ O co, r = .returned (.slice O sz co) ∧ Own w' w.heap.size 5 O co (be x sz) ∧ Ext w w' := by
  obtain ⟨i0, hi0, hz0, hz1, hz2⟩ := info_parts info_u8
  have hs9 : IntKind.i64.wrap ((sz : Int) - 1) = ((sz - 1 : Nat) : Int) := by rw [IntWalk.i64_in _ (by omega)]; omega
  obtain ⟨z1, hz1'⟩ : ∃ z1, sz - 1 = z1 := ⟨_, rfl⟩
  rw [hz1'] at hs9
  have HZ1 := hid hz1'
  clear hz1'
  have hs8 : (sz : Int) - 1 = (z1 : Int) := by have := HZ1.out; omega
  go_enter Try.func42, Try.ntmps42
  go_wp2_with fail
  go_loopw [5, 6] (fun ov iv wr => PtRel w w.heap.size x sz ov iv wr) (fun _ iv => fun _ => ((match iv with | .int _ a => a | _ => 0) + 1).toNat)
  case atStart => exact ⟨none, 0, [], rfl, Own.nil _ _ _, ext_refl _, .inl ⟨z1, by have := HZ1.out; omega, rfl, by rw [← HZ1.out, Nat.sub_self, List.take_zero]⟩⟩
  case round =>
    obtain ⟨O5, co5, q5, rfl, ow0, hx, hcase⟩ := hrel
    rcases hcase with ⟨i, hi, rfl, hq5⟩ | ⟨rfl, hq5⟩
    · have hq5l : q5.length ≤ 4 := by
        rw [hq5, List.length_take, be_len]
        omega
      have hbt : q5 ++ [byt (x / 256 ^ i)] = (be x sz).take (sz - i) := by rw [hq5, be_take x sz i hi]
      have hi4 : i = 0 ∨ i = 1 ∨ i = 2 ∨ i = 3 := by omega
      have hb8 := byt_u8 (x / 256 ^ i)
      obtain ⟨y, hy⟩ : ∃ y, byt (x / 256 ^ i) = y := ⟨_, rfl⟩
      rw [hy] at hbt hb8
      have HBT := hid hbt
      have ow : OwnG isU8 wr w.heap.size 5 1 O5 q5.length co5 (q5.map u8v) := ow0
      have OWH := hid ow0
      have HX := hid hx
      have hwz : w.heap.size ≤ wr.heap.size := hx.size
      obtain ⟨q5n, hq5n⟩ : ∃ q5n, q5.length = q5n := ⟨_, rfl⟩
      rw [hq5n] at ow hq5l ⊢
      have HQ5 := hid hq5n
      have HI := hid hi
      clear hq5 hbt hy hq5n hi ow0 hx
      rcases hi4 with rfl | rfl | rfl | rfl
      all_goals
        simp only [Int.pow_succ, Int.pow_zero, Int.one_mul, Int.reduceMul, Int.ediv_one] at hb8
        go_wp2_with (at_builtin; go_must (refine wpList_append_1' rfl (.tmp 13) (.tmp 19) 22 rfl w.heap.size 5 i0 (.int .u8 0) 1 Try.underlying22 hi0 hz0 hz1 hz2 rfl ⟨0, rfl⟩ (fun _ h => h.one) rfl ow (.int .u8 y.toNat) (by rfl) ⟨y, rfl⟩ (by omega) (by unfold maxLen; omega) hwz ?_; intro A6 c6 w6 o6 g6 x6 n6; have O6 := hid o6; have X6 : Hid (Ext w w6) := hid (below_of_grown HX.out hwz g6 (fun g hg => (ow.lt g hg).1)); clear o6 g6 x6 n6 ow))
        go_roundw
        case rel =>
          have o7 : Own w6 w.heap.size 5 A6 c6 (q5 ++ [y]) := by
            unfold Own
            rw [List.length_append, List.map_append, HQ5.out]
            exact O6.out
          refine ⟨A6, c6, q5 ++ [y], (by simp [HQ5.out]), o7, X6.out, ?_⟩
          have hi := HI.out
          first
            | exact absurd hi (by omega)
            | exact .inr ⟨by go_num, by rw [HBT.out, Nat.sub_zero, List.take_of_length_le (by rw [be_len]; omega)]⟩
            | exact .inl ⟨0, by omega, by go_num, by rw [HBT.out, show sz - 1 - 0 = sz - 1 from rfl]⟩
            | exact .inl ⟨1, by omega, by go_num, by rw [HBT.out, show sz - 1 - 1 = sz - 2 from rfl]⟩
            | exact .inl ⟨2, by omega, by go_num, by rw [HBT.out, show sz - 1 - 2 = sz - 3 from rfl]⟩
        case measure => simp
    · have OW := hid ow0
      have HX := hid hx
      have hql : q5.length = sz := by rw [hq5, be_len]
      rw [hql]
      have HQ := hid hq5
      clear ow0 hx hq5 hql
      go_wp2_with fail
      go_ret
      exact ⟨O5, co5, rfl, by rw [← HQ.out]; exact OW.out, HX.out⟩
abbrev Sb := Option Addr × Nat × List UInt8
def sbv (s : Sb) : Value := .slice s.1 s.2.2.length s.2.1
def RdJ (w : World) (A : Option Addr) (c : Nat) (J : List Sb) : Prop := RdG w 1 A J.length c (J.map sbv) ∧ (∀ s ∈ J, Rd w s.1 s.2.1 s.2.2) ∧ J.length ≤ 5 ∧ ∀ s ∈ J, s.2.2.length ≤ 5000
theorem RdJ.ext {w w' : World} {A : Option Addr} {c : Nat} {J : List Sb} (h : RdJ w A c J) (x : Ext w w') : RdJ w' A c J := ⟨h.1.ext x, fun s hs => RdG.ext (h.2.1 s hs) x, h.2.2⟩
def JnRel (w : World) (J : List Sb) (ov iv : Value) (wr : World) : Prop :=
  ∃ j O co q, j ≤ J.length ∧ iv = .int .i64 (j : Nat) ∧ q = (J.take j).flatMap (fun s => s.2.2) ∧ ov = .slice O q.length co ∧ Own wr w.heap.size 5 O co q ∧ Ext w wr ∧ q.length ≤ j * 5000
set_option maxHeartbeats 2000000 in
set_option maxRecDepth 100000 in
theorem rf_join {w : World} {A : Option Addr} {c : Nat} {J : List Sb} (h : RdJ w A c J) (q0 : List UInt8) (hq0 : J.flatMap (fun s => s.2.2) = q0) : Calls Try.prog 43 #[.slice A J.length c] w fun r w' => ∃ O co, r = .returned (.slice O q0.length co) ∧ Own w' w.heap.size 5 O co q0 ∧ Ext w w' := by
  have HQ0 := hid hq0
  clear hq0
  obtain ⟨i0, hi0, hz0, hz1, hz2⟩ := info_parts info_u8
  obtain ⟨m, hm⟩ : ∃ m, J.length = m := ⟨_, rfl⟩
  have hm5 : m ≤ 5 := by rw [← hm]; exact h.2.2.1
  have START : Hid (JnRel w J (.slice none 0 0) (.int .i64 0) w) := hid ⟨0, none, 0, [], Nat.zero_le _, rfl, rfl, rfl, Own.nil _ _ _, ext_refl _, by simp⟩
  have H := hid h
  have HM := hid hm
  rw [hm]
  clear h hm
  go_enter Try.func43, Try.ntmps43
  go_wp2_with fail
  go_loopw [3, 4] (fun ov iv wr => JnRel w J ov iv wr) (fun _ iv _ => m - (intOf iv).toNat)
  case atStart => exact START.out
  case round =>
    obtain ⟨j, O, co, q, hj, rfl, hq, rfl, ow0, hx, hql⟩ := hrel
    rw [HM.out] at hj
    by_cases hlt : j < m
    · have i1 : (j : Int) < (m : Int) := by omega
      have hlt1 : j < J.length := by rw [HM.out]; exact hlt
      have hr := H.out.1
      rw [HM.out] at hr
      obtain ⟨b, o, hA, hb, hcell⟩ := (hr.ext hx).at_ hlt
      have hcv : (J.map sbv).getD j undef = sbv J[j] := by simp [List.getD, hlt1]
      rw [hcv] at hcell
      have hrs := H.out.2.1 J[j] (List.getElem_mem hlt1)
      have hsl := H.out.2.2.2 J[j] (List.getElem_mem hlt1)
      have htk : J.take (j + 1) = J.take j ++ [J[j]] := by rw [List.take_succ_eq_append_getElem hlt1]
      obtain ⟨s, hs⟩ : ∃ s, J[j] = s := ⟨_, rfl⟩
      rw [hs] at hcell hrs hsl htk
      obtain ⟨B, d, l⟩ := s
      simp only [sbv] at hcell hrs hsl
      obtain ⟨ll, hll⟩ : ∃ ll, l.length = ll := ⟨_, rfl⟩
      have sr : RdG wr 1 B ll d (l.map u8v) := by rw [← hll]; exact RdG.ext hrs hx
      rw [hll] at hcell hsl
      have HLL := hid hll
      have HTK := hid htk
      have HQ := hid hq
      have HX := hid hx
      obtain ⟨ql, hqn⟩ : ∃ ql, q.length = ql := ⟨_, rfl⟩
      have ow : OwnG isU8 wr w.heap.size 5 1 O ql co (q.map u8v) := by rw [← hqn]; exact ow0
      have hwz : w.heap.size ≤ wr.heap.size := hx.size
      rw [hqn] at hql ⊢
      have HQL := hid hqn
      subst hA
      clear hr hcv hrs htk hs hll hq hx hqn ow0
      go_wp2_with (at_builtin; go_must (refine wpList_append_g (ok := isU8) rfl (.tmp 11) (.tmp 15) 22 rfl w.heap.size 5 i0 (.int .u8 0) 1 1 Try.underlying22 hi0 hz0 hz1 hz2 rfl (by decide) (by simp [Value.cells]; exact ⟨0, rfl⟩) (fun _ h => h.one) rfl ow rfl sr (isU8_map _) (by omega) (by unfold maxLen; omega) hwz ?_; intro A6 c6 w6 o6 g6 n6; have O6 := hid o6; have X6 : Hid (Ext w w6) := hid (below_of_grown HX.out hwz g6 (fun g hg => (ow.lt g hg).1)); clear o6 g6 n6 ow sr))
      go_roundw
      case rel =>
        refine ⟨j + 1, A6, c6, q ++ l, by omega, by go_num, ?_, (by rw [List.length_append, HQL.out, HLL.out]), ?_, X6.out, (by rw [List.length_append, HQL.out, HLL.out]; omega)⟩
        · rw [HTK.out, List.flatMap_append, HQ.out]
          simp
        · unfold Own
          rw [List.length_append, List.map_append, HQL.out, HLL.out]
          exact O6.out
      case measure => simp [intOf]; omega
    · obtain rfl : j = m := by omega
      have i1 : ¬ (j : Int) < (j : Int) := by omega
      have OW := hid ow0
      have HX := hid hx
      have e1 : q = q0 := by rw [hq, ← HM.out, List.take_length, HQ0.out]
      have HE := hid e1
      clear ow0 hx e1 hq
      go_wp2_with fail
      go_ret
      exact ⟨O, co, by rw [← HE.out]; rfl, by rw [← HE.out]; exact OW.out, HX.out⟩
end Go.Proofs.Ytholjbnggnfapaa

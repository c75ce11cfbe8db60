/- Layer 21: who is none; some of the chapter's examples. -/
import Derived.Test.YtkogagpahidenaaDrrG
namespace Go.Proofs.Ytkogagpahidenaa
open Go.BK Go.BK.DR Go.RowKit Go.Maps
set_option linter.unusedVariables false
section
variable {w : World} {v : Value}
def NoneQ (v : Value) (w : World) : Prop := Calls Try.prog 31 #[v] w fun e w' => e = .returned (.bool true) ∧ w = w'
set_option maxHeartbeats 1000000 in
theorem nil_next (h : NoneQ v w) : Calls Try.prog 13 #[v] w fun e w' => e = .returned (tellV none) ∧ w = w' := by
  have H := hid h
  unfold NoneQ at H
  clear h
  go_enter Try.func13, Try.ntmps13
  go_wp2_with fail
  refine H.out.mono ?_
  rintro e _ ⟨rfl, rfl⟩
  go_wp2
  refine bodyPost_ret (by simp [results, Try.results13, go_sem]; rfl) rfl ?_
  exact ⟨rfl, rfl⟩
set_option maxHeartbeats 1000000 in
theorem nil_peek (h : NoneQ v w) : Calls Try.prog 22 #[v] w fun e w' => e = .returned (tellV none) ∧ w = w' := by
  have H := hid h
  unfold NoneQ at H
  clear h
  go_enter Try.func22, Try.ntmps22
  go_wp2_with fail
  refine H.out.mono ?_
  rintro e _ ⟨rfl, rfl⟩
  go_wp2
  refine bodyPost_ret (by simp [results, Try.results22, go_sem]; rfl) rfl ?_
  exact ⟨rfl, rfl⟩
set_option maxHeartbeats 1000000 in
theorem nil_put (h : NoneQ v w) (a : Int) (c : Int) (x : Int) : Calls Try.prog 12 #[v, .int .i64 a, .int .i64 c, .int .i64 x] w fun e w' => e = .returned (.int .i64 1) ∧ w = w' := by
  have H := hid h
  unfold NoneQ at H
  clear h
  go_enter Try.func12, Try.ntmps12
  go_wp2_with fail
  refine H.out.mono ?_
  rintro e _ ⟨rfl, rfl⟩
  go_wp2
  go_ret
  exact ⟨rfl, rfl⟩
set_option maxHeartbeats 1000000 in
theorem nil_len (h : NoneQ v w) : Calls Try.prog 19 #[v] w fun e w' => e = .returned (.int .i64 0) ∧ w = w' := by
  have H := hid h
  unfold NoneQ at H
  clear h
  go_enter Try.func19, Try.ntmps19
  go_wp2_with fail
  refine H.out.mono ?_
  rintro e _ ⟨rfl, rfl⟩
  go_wp2
  go_ret
  exact ⟨rfl, rfl⟩
set_option maxHeartbeats 1000000 in
theorem nil_of (h : NoneQ v w) (a : Int) : Calls Try.prog 14 #[v, .int .i64 a] w fun e w' => e = .returned (.int .i64 0) ∧ w = w' := by
  have H := hid h
  unfold NoneQ at H
  clear h
  go_enter Try.func14, Try.ntmps14
  go_wp2_with fail
  refine H.out.mono ?_
  rintro e _ ⟨rfl, rfl⟩
  go_wp2
  go_ret
  exact ⟨rfl, rfl⟩
set_option maxHeartbeats 1000000 in
theorem nil_clients (h : NoneQ v w) : Calls Try.prog 15 #[v] w fun e w' => e = .returned (.slice none 0 0) ∧ w = w' := by
  have H := hid h
  unfold NoneQ at H
  clear h
  go_enter Try.func15, Try.ntmps15
  go_wp2_with fail
  refine H.out.mono ?_
  rintro e _ ⟨rfl, rfl⟩
  go_wp2
  go_ret
  exact ⟨rfl, rfl⟩
set_option maxHeartbeats 1000000 in
theorem nil_drop (h : NoneQ v w) (a : Int) : Calls Try.prog 18 #[v, .int .i64 a] w fun e w' => e = .returned (.slice none 0 0) ∧ w = w' := by
  have H := hid h
  unfold NoneQ at H
  clear h
  go_enter Try.func18, Try.ntmps18
  go_wp2_with fail
  refine H.out.mono ?_
  rintro e _ ⟨rfl, rfl⟩
  go_wp2
  go_ret
  exact ⟨rfl, rfl⟩
end
/-! ### the examples' scheduler -/
def p4 : Par := ⟨4, 4, 10, 10⟩
theorem p4_ok : p4.ok := by unfold p4 Par.ok; decide
set_option maxHeartbeats 1000000 in
theorem four_yes (w : World) : Calls Try.prog 16 #[] w fun e w' => ∃ g, e = .returned (.pointer (some ⟨g, 0, none⟩)) ∧ Qs (fun k => w.heap.size ≤ k) w' g p4 ⟨[], false⟩ ∧ Ext w w' := by
  have C := hid (q_new 4 4 10 10 w p4_ok)
  go_enter Try.func16, Try.ntmps16
  go_wp2_with fail
  refine C.out.mono ?_
  rintro e w1 ⟨g, rfl, hq, hx⟩
  have HQ := hid hq
  have HX := hid hx
  clear hq hx
  go_wp2
  go_ret
  exact ⟨g, rfl, HQ.out, HX.out⟩
/-- The blocks from B on are the scheduler's; below nothing has turned. -/
def QB (B : Nat) (w w' : World) (g : Nat) (p : Par) (s : St) : Prop := Qs (fun k => B ≤ k) w' g p s ∧ Below B w w' ∧ B ≤ w'.heap.size
theorem QB.step {B : Nat} {w w1 w2 : World} {g : Nat} {p : Par} {s s' : St} (h : QB B w w1 g p s) (hq : Qs (More (fun k => B ≤ k) w1) w2 g p s') (hs : Shy (fun k => B ≤ k) w1 w2) : QB B w w2 g p s' :=
  ⟨hq.mono fun k _ e => by rcases e with e | e; exact e; exact Nat.le_trans h.2.2 e, Below.trans h.2.1 (hs.below h.2.2 fun k hk e => by omega), Nat.le_trans h.2.2 hs.size⟩
theorem QB.ext {B : Nat} {w w1 w2 : World} {g : Nat} {p : Par} {s : St} (h : QB B w w1 g p s) (x : Ext w1 w2) : QB B w w2 g p s :=
  ⟨h.1.ext x, Below.trans h.2.1 (x.mono h.2.2), Nat.le_trans h.2.2 x.size⟩
theorem wf_small (a : Int) (h : 0 ≤ a ∧ a ≤ 1000) : wfI a := ⟨by omega, by omega⟩
section
variable {B : Nat} {w w1 : World} {g : Nat} {p : Par} {s : St}
theorem qb_put (h : QB B w w1 g p s) (a cost x : Int) (ha : wfI a) : Calls Try.prog 12 #[.pointer (some ⟨g, 0, none⟩), .int .i64 a, .int .i64 cost, .int .i64 x] w1 fun e w' => e = .returned (.int .i64 (putS p s a cost x).2) ∧ QB B w w' g p (putS p s a cost x).1 :=
  (q_put h.1 a cost x ha).mono fun e w' ⟨he, h1, h2⟩ => ⟨he, h.step h1 h2⟩
theorem qb_next (h : QB B w w1 g p s) : Calls Try.prog 13 #[.pointer (some ⟨g, 0, none⟩)] w1 fun e w' => e = .returned (tellV (nextS p s).2) ∧ QB B w w' g p (nextS p s).1 :=
  (q_next h.1).mono fun e w' ⟨he, h1, h2⟩ => ⟨he, h.step h1 h2⟩
set_option maxHeartbeats 1000000 in
theorem is_yes (h : QB B w w1 g p s) (a b : Int) (hn : (nextS p s).2 = some (a, b)) : Calls Try.prog 29 #[.pointer (some ⟨g, 0, none⟩), .int .i64 a, .int .i64 b] w1 fun e w' => e = .returned (.bool true) ∧ QB B w w' g p (nextS p s).1 := by
  have C := qb_next h
  rw [hn] at C
  simp only [tellV] at C
  have C := hid C
  clear h hn
  go_enter Try.func29, Try.ntmps29
  go_wp2_with fail
  refine C.out.mono ?_
  rintro e w2 ⟨rfl, hq⟩
  have HQ := hid hq
  clear hq
  go_wp2
  go_ret
  exact ⟨by simp, HQ.out⟩
end
def aw1 : St := (putS p4 ⟨[], false⟩ 1 6 11).1
theorem aw1_e : (putS p4 ⟨[], false⟩ 1 6 11).2 = 0 := by decide +kernel
def aw2 : St := (putS p4 aw1 1 6 12).1
theorem aw2_e : (putS p4 aw1 1 6 12).2 = 0 := by decide +kernel
def aw3 : St := (putS p4 aw2 2 3 21).1
theorem aw3_e : (putS p4 aw2 2 3 21).2 = 0 := by decide +kernel
def aw4 : St := (putS p4 aw3 2 3 22).1
theorem aw4_e : (putS p4 aw3 2 3 22).2 = 0 := by decide +kernel
def aw5 : St := (putS p4 aw4 2 3 23).1
theorem aw5_e : (putS p4 aw4 2 3 23).2 = 0 := by decide +kernel
def aw6 : St := (nextS p4 aw5).1
theorem aw6_e : (nextS p4 aw5).2 = some (1, 11) := by decide +kernel
def aw7 : St := (nextS p4 aw6).1
theorem aw7_e : (nextS p4 aw6).2 = some (2, 21) := by decide +kernel
def aw8 : St := (nextS p4 aw7).1
theorem aw8_e : (nextS p4 aw7).2 = some (2, 22) := by decide +kernel
def aw9 : St := (nextS p4 aw8).1
theorem aw9_e : (nextS p4 aw8).2 = some (2, 23) := by decide +kernel
def aw10 : St := (nextS p4 aw9).1
theorem aw10_e : (nextS p4 aw9).2 = some (1, 12) := by decide +kernel
def aw11 : St := (nextS p4 aw10).1
theorem aw11_e : (nextS p4 aw10).2 = none := by decide +kernel
theorem aw11_l : lenS aw11 = 0 := by decide +kernel
set_option maxHeartbeats 4000000 in
set_option maxRecDepth 100000 in
theorem awake_yes (w : World) : Calls Try.prog 8 #[] w fun e w' => e = .returned (.bool true) ∧ Below w.heap.size w w' := by
  go_enter Try.func8, Try.ntmps8
  go_wp2_with fail
  refine (four_yes w).mono ?_
  rintro e w0 ⟨g, rfl, hq, hx⟩
  have Q0 : Hid (QB w.heap.size w w0 g p4 ⟨[], false⟩) := hid ⟨hq, hx, hx.size⟩
  clear hq hx
  go_wp2_with fail
  have C := qb_put Q0.out 1 6 11 (wf_small _ (by decide))
  rw [aw1_e] at C
  have C := hid C
  refine C.out.mono ?_
  rintro e w1 ⟨rfl, hq⟩
  have Q1 : Hid (QB w.heap.size w w1 g p4 aw1) := hid hq
  clear hq C
  go_wp2_with fail
  have C := qb_put Q1.out 1 6 12 (wf_small _ (by decide))
  rw [aw2_e] at C
  have C := hid C
  refine C.out.mono ?_
  rintro e w2 ⟨rfl, hq⟩
  have Q2 : Hid (QB w.heap.size w w2 g p4 aw2) := hid hq
  clear hq C
  go_wp2_with fail
  have C := qb_put Q2.out 2 3 21 (wf_small _ (by decide))
  rw [aw3_e] at C
  have C := hid C
  refine C.out.mono ?_
  rintro e w3 ⟨rfl, hq⟩
  have Q3 : Hid (QB w.heap.size w w3 g p4 aw3) := hid hq
  clear hq C
  go_wp2_with fail
  have C := qb_put Q3.out 2 3 22 (wf_small _ (by decide))
  rw [aw4_e] at C
  have C := hid C
  refine C.out.mono ?_
  rintro e w4 ⟨rfl, hq⟩
  have Q4 : Hid (QB w.heap.size w w4 g p4 aw4) := hid hq
  clear hq C
  go_wp2_with fail
  have C := qb_put Q4.out 2 3 23 (wf_small _ (by decide))
  rw [aw5_e] at C
  have C := hid C
  refine C.out.mono ?_
  rintro e w5 ⟨rfl, hq⟩
  have Q5 : Hid (QB w.heap.size w w5 g p4 aw5) := hid hq
  clear hq C
  go_wp2_with fail
  refine (is_yes Q5.out 1 11 aw6_e).mono ?_
  rintro e w6 ⟨rfl, hq⟩
  have Q6 : Hid (QB w.heap.size w w6 g p4 aw6) := hid hq
  clear hq
  go_wp2_with fail
  refine (is_yes Q6.out 2 21 aw7_e).mono ?_
  rintro e w7 ⟨rfl, hq⟩
  have Q7 : Hid (QB w.heap.size w w7 g p4 aw7) := hid hq
  clear hq
  go_wp2_with fail
  refine (is_yes Q7.out 2 22 aw8_e).mono ?_
  rintro e w8 ⟨rfl, hq⟩
  have Q8 : Hid (QB w.heap.size w w8 g p4 aw8) := hid hq
  clear hq
  go_wp2_with fail
  refine (is_yes Q8.out 2 23 aw9_e).mono ?_
  rintro e w9 ⟨rfl, hq⟩
  have Q9 : Hid (QB w.heap.size w w9 g p4 aw9) := hid hq
  clear hq
  go_wp2_with fail
  refine (is_yes Q9.out 1 12 aw10_e).mono ?_
  rintro e w10 ⟨rfl, hq⟩
  have Q10 : Hid (QB w.heap.size w w10 g p4 aw10) := hid hq
  clear hq
  go_wp2_with fail
  have C := qb_next Q10.out
  rw [aw11_e] at C
  simp only [tellV] at C
  have C := hid C
  refine C.out.mono ?_
  rintro e w11 ⟨rfl, hq⟩
  have Q11 : Hid (QB w.heap.size w w11 g p4 aw11) := hid hq
  clear hq C
  go_wp2_with fail
  have C := q_len Q11.out.1
  rw [aw11_l] at C
  have C := hid C
  refine C.out.mono ?_
  rintro e _ ⟨rfl, rfl⟩
  go_wp2_with fail
  go_ret
  exact ⟨rfl, Q11.out.2.1⟩
def pvQ (zb k : Nat) : Value := if k = 0 then .pointer none else .pointer (some ⟨zb, 0, none⟩)
set_option maxHeartbeats 4000000 in
set_option maxRecDepth 100000 in
theorem none_walk (a c x : Int) (w : World) (ha : -9223372036854775808 ≤ a ∧ a ≤ 9223372036854775807) (hc : -9223372036854775808 ≤ c ∧ c ≤ 9223372036854775807) (hx : -9223372036854775808 ≤ x ∧ x ≤ 9223372036854775807) :
    Calls Try.prog 7 #[.int .i64 a, .int .i64 c, .int .i64 x] w fun e w' => e = .returned (.bool true) ∧ Below w.heap.size w w' := by
  clear ha hc hx
  go_enter Try.func7, Try.ntmps7
  go_upto_region 3 with (fail)
  have KZ : ZeroQ ((w.alloc (.cells #[.int .i64 0, .int .i64 0, .int .i64 0, .int .i64 0, .pointer none, .map none, .bool false, .int .i64 0] 52)).alloc (.cells #[.pointer none, .pointer (some ⟨w.heap.size, 0, none⟩)] 27)) w.heap.size := (Blk.new w 52 _).alloc _
  have KL := Blk.new (w.alloc (.cells #[.int .i64 0, .int .i64 0, .int .i64 0, .int .i64 0, .pointer none, .map none, .bool false, .int .i64 0] 52)) 27 #[.pointer none, .pointer (some ⟨w.heap.size, 0, none⟩)]
  have hx : Ext w ((w.alloc (.cells #[.int .i64 0, .int .i64 0, .int .i64 0, .int .i64 0, .pointer none, .map none, .bool false, .int .i64 0] 52)).alloc (.cells #[.pointer none, .pointer (some ⟨w.heap.size, 0, none⟩)] 27)) := ext_trans (ext_alloc _ _) (ext_alloc _ _)
  rw [show (w.alloc (.cells #[.int .i64 0, .int .i64 0, .int .i64 0, .int .i64 0, .pointer none, .map none, .bool false, .int .i64 0] 52)).heap.size = w.heap.size + 1 from by simp] at KL
  generalize (w.alloc (.cells #[.int .i64 0, .int .i64 0, .int .i64 0, .int .i64 0, .pointer none, .map none, .bool false, .int .i64 0] 52)).alloc (.cells #[.pointer none, .pointer (some ⟨w.heap.size, 0, none⟩)] 27) = w2 at KZ KL hx ⊢
  have CN : ∀ k, k < 2 → NoneQ (pvQ w.heap.size k) w2 := by
    intro k hk
    rcases (show k = 0 ∨ k = 1 by omega) with rfl | rfl
    · exact none_nil w2
    · exact none_zero KZ
  have HK := hid KL
  have HX := hid hx
  have CN := hid CN
  clear KZ KL hx
  go_wp2_with fail
  go_loop [9] (fun i => ∃ k : Nat, k ≤ 2 ∧ i = .int .i64 k) (fun i => 2 - (intOf i).toNat)
  case atStart => exact ⟨0, Nat.zero_le _, rfl⟩
  case round =>
    obtain ⟨k, hk, rfl⟩ := hrel
    by_cases hlt : k < 2
    · have hcell : w2.cell? ⟨w.heap.size + 1, k, none⟩ = some (pvQ w.heap.size k) := by
        rw [HK.out.cell k]
        rcases (show k = 0 ∨ k = 1 by omega) with rfl | rfl <;> rfl
      have c0 := CN.out k hlt
      generalize pvQ w.heap.size k = q at hcell c0
      have C1 := hid (nil_next c0)
      have C2 := hid (nil_peek c0)
      have C3 := hid (nil_put c0 a c x)
      have C4 := hid (nil_len c0)
      have C5 := hid (nil_of c0 a)
      have C6 := hid (nil_clients c0)
      have C7 := hid (nil_drop c0 a)
      simp only [tellV] at C1 C2
      clear c0
      go_wp2_with fail
      refine C1.out.mono ?_
      rintro e _ ⟨rfl, rfl⟩
      go_wp2_with fail
      refine C2.out.mono ?_
      rintro e _ ⟨rfl, rfl⟩
      go_wp2_with fail
      refine C3.out.mono ?_
      rintro e _ ⟨rfl, rfl⟩
      go_wp2_with fail
      refine C4.out.mono ?_
      rintro e _ ⟨rfl, rfl⟩
      go_wp2_with fail
      refine C5.out.mono ?_
      rintro e _ ⟨rfl, rfl⟩
      go_wp2_with fail
      refine C6.out.mono ?_
      rintro e _ ⟨rfl, rfl⟩
      go_wp2_with fail
      refine C7.out.mono ?_
      rintro e _ ⟨rfl, rfl⟩
      go_wp2_with fail
      go_round
      case rel => exact ⟨k + 1, by omega, by go_num⟩
      case measure => simp [intOf]; omega
    · obtain rfl : k = 2 := by omega
      go_wp2_with fail
      refine (awake_yes _).mono ?_
      rintro e w3 ⟨rfl, x3⟩
      go_wp2_with fail
      go_ret
      exact ⟨rfl, ext_trans HX.out x3⟩
end Go.Proofs.Ytkogagpahidenaa

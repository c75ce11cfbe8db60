/- Layer 23: CacheRanks. (Printed by gen_chcp.py.) -/
import Derived.Test.YtcddfenhkljpeaaChcO
import Derived.Test.YtcddfenhkljpeaaKPick
namespace Go.Proofs.Ytcddfenhkljpeaa
open Go.BK Go.BK.CH Go.BK.NM Go.RowKit Go.Maps
set_option linter.unusedVariables false
set_option linter.unusedSimpArgs false
def aN : List UInt8 := [1, 97, 0]
theorem aN_low : lower [1, 97, 0] = [1, 97, 0] := by decide +kernel
def kE (s : SetS) (rk e : Int) : Ent := ⟨[1, 97, 0], 1, .known s rk e⟩
theorem live_one (s : SetS) (rk e t : Int) (h : t < e) : liveE [kE s rk e] t [1, 97, 0] 1 = some (kE s rk e) := by
  have : liveE [kE s rk e] t [1, 97, 0] 1 = if e ≤ t then none else some (kE s rk e) := rfl
  rw [this, if_neg (by omega)]
theorem live_one_no (s : SetS) (rk e t : Int) (h : e ≤ t) : liveE [kE s rk e] t [1, 97, 0] 1 = none := by
  have : liveE [kE s rk e] t [1, 97, 0] 1 = if e ≤ t then none else some (kE s rk e) := rfl
  rw [this, if_pos h]
theorem live_one_0 (s : SetS) (rk e t : Int) : liveE [kE s rk e] t [1, 97, 0] 0 = none := rfl
theorem setE_one (T : Int) (d : List UInt8) (F t : Int) : setE (oneSet [1, 97, 0] T d) F t = kE (oneSet [1, 97, 0] T d) F (t + T) := by
  unfold setE kE
  rw [show (oneSet [1, 97, 0] T d).nm = [1, 97, 0] from rfl, aN_low]
  rfl
theorem putE_one (s0 : SetS) (rk e : Int) (s1 : SetS) (F f : Int) : putE 3 [kE s0 rk e] (kE s1 F f) = [kE s1 F f] := rfl
theorem putE_none (s1 : SetS) (F f : Int) : putE 3 [] (kE s1 F f) = [kE s1 F f] := rfl
theorem tmax_up (a b : Int) (h : a ≤ b) : tmax a b = b := by
  unfold tmax
  split <;> omega
theorem rk1 (T F : Int) (d : List UInt8) : putS 3 ⟨0, []⟩ (oneSet [1, 97, 0] T d) F 50 = (⟨50, [kE (oneSet [1, 97, 0] T d) F (50 + T)]⟩, true) := by
  unfold putS
  simp only [tmax_up 0 50 (by decide), setE_one]
  rw [show (oneSet [1, 97, 0] T d).nm = [1, 97, 0] from rfl, aN_low]
  split
  · rfl
  · rfl
theorem rk2_yes (T F O G b : Int) (d c : List UInt8) (hb : 0 ≤ b) (h : T ≤ b ∨ F ≤ G) : putS 3 ⟨50, [kE (oneSet [1, 97, 0] T d) F (50 + T)]⟩ (oneSet [1, 97, 0] O c) G (50 + b) = (⟨50 + b, [kE (oneSet [1, 97, 0] O c) G (50 + b + O)]⟩, true) := by
  unfold putS
  simp only [tmax_up 50 (50 + b) (by omega), setE_one]
  rw [show (oneSet [1, 97, 0] O c).nm = [1, 97, 0] from rfl, aN_low, show (oneSet [1, 97, 0] O c).ty = 1 from rfl]
  split
  · by_cases h1 : T ≤ b
    · rw [live_one_no _ _ _ _ (by omega)]
      rfl
    · rw [live_one _ _ _ _ (by omega)]
      simp only [kE]
      rw [if_pos (by omega)]
      rfl
  · rfl
theorem rk2_no (T F O G b : Int) (d c : List UInt8) (hb : 0 ≤ b) (h : ¬ T ≤ b) (h2 : ¬ F ≤ G) (hF : F ≤ 3) : putS 3 ⟨50, [kE (oneSet [1, 97, 0] T d) F (50 + T)]⟩ (oneSet [1, 97, 0] O c) G (50 + b) = (⟨50 + b, [kE (oneSet [1, 97, 0] T d) F (50 + T)]⟩, false) := by
  unfold putS
  simp only [tmax_up 50 (50 + b) (by omega), setE_one]
  rw [show (oneSet [1, 97, 0] O c).nm = [1, 97, 0] from rfl, aN_low, show (oneSet [1, 97, 0] O c).ty = 1 from rfl, if_pos (by omega), live_one _ _ _ _ (by omega)]
  simp only [kE]
  rw [if_neg h2]
theorem rk3_yes (T F e t rank : Int) (d : List UInt8) (h : t < e) (hr : rank ≤ F) : (getS ⟨t, [kE (oneSet [1, 97, 0] T d) F e]⟩ [1, 97, 0] 1 rank t).2 = ⟨1, ⟨[1, 97, 0], 1, 1, e - t, [d]⟩, e - t⟩ := by
  unfold getS
  simp only [tmax_up t t (by omega), aN_low]
  rw [live_one _ _ _ _ h]
  simp only [kE]
  rw [if_pos hr]
  rfl
theorem rk3_no (T F e t rank : Int) (d : List UInt8) (h : t < e) (hr : ¬ rank ≤ F) : (getS ⟨t, [kE (oneSet [1, 97, 0] T d) F e]⟩ [1, 97, 0] 1 rank t).2 = ⟨0, ⟨[], 0, 0, 0, []⟩, 0⟩ := by
  unfold getS
  simp only [tmax_up t t (by omega), aN_low]
  rw [live_one _ _ _ _ h]
  simp only [kE]
  rw [if_neg hr]
  rfl
theorem pk_one (x m : Int) (hm : 1 ≤ m ∧ m ≤ 2000000000) : ∃ z, wrap64 (1 + pick x m) = z ∧ IntKind.i64.wrap (1 + pick x m) = z ∧ 1 ≤ z ∧ z ≤ m := by
  have h := pick_range x m hm.1
  exact ⟨1 + pick x m, IntWalk.wrap64_in _ (by omega), IntWalk.i64_in _ (by omega), by omega, by omega⟩
theorem at_one (b : Int) (h : 0 ≤ b ∧ b ≤ 1000) : wrap64 (50 + b) = 50 + b ∧ IntKind.i64.wrap (50 + b) = 50 + b := ⟨IntWalk.wrap64_in _ (by omega), IntWalk.i64_in _ (by omega)⟩
set_option maxHeartbeats 4000000 in
set_option maxRecDepth 100000 in
theorem ranks_a1 (a0 a1 a2 a3 a4 a5 : Int) (w : World) (h0 : -9223372036854775808 ≤ a0 ∧ a0 ≤ 9223372036854775807) (h1 : -9223372036854775808 ≤ a1 ∧ a1 ≤ 9223372036854775807) (h2 : -9223372036854775808 ≤ a2 ∧ a2 ≤ 9223372036854775807) (h3 : -9223372036854775808 ≤ a3 ∧ a3 ≤ 9223372036854775807) (h4 : -9223372036854775808 ≤ a4 ∧ a4 ≤ 9223372036854775807)
    {F G T O b : Int} (eF : wrap64 (1 + pick a0 3) = F ∧ IntKind.i64.wrap (1 + pick a0 3) = F ∧ 1 ≤ F ∧ F ≤ 3) (eG : wrap64 (1 + pick a1 3) = G ∧ IntKind.i64.wrap (1 + pick a1 3) = G ∧ 1 ≤ G ∧ G ≤ 3) (eT : wrap64 (1 + pick a2 1000) = T ∧ IntKind.i64.wrap (1 + pick a2 1000) = T ∧ 1 ≤ T ∧ T ≤ 1000) (eO : wrap64 (1 + pick a3 1000) = O ∧ IntKind.i64.wrap (1 + pick a3 1000) = O ∧ 1 ≤ O ∧ O ≤ 1000) (eb : pick a4 1001 = b ∧ 0 ≤ b ∧ b ≤ 1000)
    (hw : T ≤ b) (hr : a5 ≤ G) :
    Calls Try.prog 4 #[.int .i64 a0, .int .i64 a1, .int .i64 a2, .int .i64 a3, .int .i64 a4, .int .i64 a5] w fun e w' => e = .returned (.bool true) ∧ Below w.heap.size w w' := by
  obtain ⟨B, hB⟩ : ∃ B, w.heap.size = B := ⟨_, rfl⟩
  rw [hB]
  have HB := hid hB
  have AW := awake_yes w
  rw [hB] at AW
  have AW := hid AW
  have P0 := hid (fun W => pick_any a0 3 W h0 (by decide))
  have P1 := hid (fun W => pick_any a1 3 W h1 (by decide))
  have P2 := hid (fun W => pick_any a2 1000 W h2 (by decide))
  have P3 := hid (fun W => pick_any a3 1000 W h3 (by decide))
  have P4 := hid (fun W => pick_any a4 1001 W h4 (by decide))
  obtain ⟨eF1, eF2, rF⟩ := eF
  obtain ⟨eG1, eG2, rG⟩ := eG
  obtain ⟨eT1, eT2, rT⟩ := eT
  obtain ⟨eO1, eO2, rO⟩ := eO
  obtain ⟨eb1, rb⟩ := eb
  have RK2 := rk2_yes T F O G b [120] [121] rb.1 (.inl hw)
  have RK3 := rk3_yes O G (50 + b + O) (50 + b) a5 [121] (by omega) hr
  have hin : inTime (50 + b) := by unfold inTime; omega
  obtain ⟨lf, hlf⟩ : ∃ x, (50 + b) + O - (50 + b) = x := ⟨_, rfl⟩
  rw [hlf] at RK3
  have RK2 := hid RK2
  have RK3 := hid RK3
  clear hB h0 h1 h2 h3 h4 hlf
  go_enter Try.func4, Try.ntmps4
  go_wp2_with fail
  refine AW.out.mono ?_
  rintro e w0 ⟨rfl, x0⟩
  have Z0 : Hid (Shy (fun k => B ≤ k) w w0) := hid (Shy.of_ext (by have := HB.out; subst this; exact x0))
  have hz0 : B ≤ w0.heap.size := by have h1 := HB.out; have h2 := x0.size; omega
  clear x0 AW
  go_wp2_with fail
  refine (P0.out _).mono ?_
  rintro e _ ⟨rfl, rfl⟩
  go_wp2_with fail
  refine (P1.out _).mono ?_
  rintro e _ ⟨rfl, rfl⟩
  go_wp2_with fail
  refine (P2.out _).mono ?_
  rintro e _ ⟨rfl, rfl⟩
  go_wp2_with fail
  refine (P3.out _).mono ?_
  rintro e _ ⟨rfl, rfl⟩
  go_wp2_with fail
  refine (P4.out _).mono ?_
  rintro e _ ⟨rfl, rfl⟩
  have C0 := c_new 3 w0 (by decide)
  simp only [pt] at C0
  have C0 := hid C0
  go_wp2_with fail
  refine C0.out.mono ?_
  rintro e w1 ⟨g, rfl, q1, x1⟩
  have Q1 : Hid (Qc (fun k => B ≤ k) w1 g 3 ⟨0, []⟩) := hid (q1.mono (fun k _ e => by omega))
  have Z1 : Hid (Shy (fun k => B ≤ k) w w1) := hid (Z0.out.ext x1)
  have hz1 : B ≤ w1.heap.size := by have h2 := x1.size; omega
  clear q1 x1 C0
  clear P0 P1 P2 P3 P4
  go_wp2_with fail
  refine (set_in T w1).mono ?_
  rintro e w2 ⟨A, c, rfl, o2, x2⟩
  have q2 := (Q1.out.mono (V := fun k => B ≤ k ∧ k < w1.heap.size) (fun k h1 h2 => ⟨h2, h1⟩)).ext x2
  have CP := one_put q2 (nm := [1, 97, 0]) (ttl := T) (d := [120]) o2 (fun k e => e.2) (by decide +kernel) (by decide) (by omega) (by decide) (rank := F) (at_ := 50) rF.1 rF.2 (by decide)
  rw [rk1 T F [120]] at CP
  have CP := hid CP
  have hz2 : B ≤ w2.heap.size := by have h2 := x2.size; omega
  have Z2 : Hid (Shy (fun k => B ≤ k) w w2) := hid (Z1.out.ext x2)
  clear q2 o2 x2
  go_wp2_with fail
  with_reducible refine CP.out.mono ?_
  rintro e w3 ⟨rfl, q3, s3⟩
  have hz3 : B ≤ w3.heap.size := by have h2 := s3.size; omega
  have q3 : Qc (fun k => B ≤ k ∧ k < w3.heap.size) w3 g 3 _ := q3.mono (fun k h1 h2 => ⟨by rcases h2 with h2 | h2; exact h2.1; omega, h1⟩)
  have Q3 := hid q3
  have Z3 : Hid (Shy (fun k => B ≤ k) w w3) := hid (Z2.out.trans s3 (fun k _ e => e.1))
  clear q3 s3 CP
  go_wp2_with fail
  refine (set_in O w3).mono ?_
  rintro e w4 ⟨A1, c1, rfl, o4, x4⟩
  have xb := ext_alloc w4 (.cells #[.string (str [1, 97, 0]), .int .i64 1, .int .i64 1, .int .i64 O, .slice A1 1 c1] 30)
  have bs := Blk.new w4 30 #[.string (str [1, 97, 0]), .int .i64 1, .int .i64 1, .int .i64 O, .slice A1 1 c1]
  obtain ⟨w5, hw5⟩ : ∃ w5, w4.alloc (.cells #[.string (str [1, 97, 0]), .int .i64 1, .int .i64 1, .int .i64 O, .slice A1 1 c1] 30) = w5 := ⟨_, rfl⟩
  obtain ⟨gs, hgs⟩ : ∃ gs, w4.heap.size = gs := ⟨_, rfl⟩
  rw [hw5] at xb bs
  rw [hgs] at bs
  have xy := ext_alloc w5 (.cells #[.string (str [121])] 9)
  have oy : OwnG isT (w5.alloc (.cells #[.string (str [121])] 9)) w5.heap.size 9 1 (some ⟨w5.heap.size, 0, none⟩) 1 1 (tvs [[121]]) := OwnG.new (ok := isT) (base := w5.heap.size) (size := 1) (e := 9) w5 [.string (str [121])] 1 1 (Nat.le_refl _) rfl (Nat.le_refl _) (by simp [maxLen]) (by intro u hu; rw [List.mem_singleton] at hu; exact ⟨_, hu⟩)
  have bs2 := bs.ext xy
  obtain ⟨w6, hw6⟩ : ∃ w6, w5.alloc (.cells #[.string (str [121])] 9) = w6 := ⟨_, rfl⟩
  obtain ⟨gd, hgd⟩ : ∃ gd, w5.heap.size = gd := ⟨_, rfl⟩
  rw [hw6] at xy oy bs2
  rw [hgd] at oy
  have hw6' : w5.alloc (.cells #[.string ⟨#[121]⟩] 9) = w6 := hw6
  have hgs3 : w3.heap.size ≤ gs ∧ gs < gd := ⟨by have h2 := x4.size; omega, by have := bs.lt; omega⟩
  have r0 := bs2.cell
  have rf := bs2.frozen
  have b7 := bs2.set_ 4 (.slice (some ⟨gd, 0, none⟩) 1 1)
  have s7 := set_shy gs 4 (.slice (some ⟨gd, 0, none⟩) 1 1) w6
  obtain ⟨w7, hw7⟩ : ∃ w7, w6.setCell ⟨gs, 4, none⟩ (.slice (some ⟨gd, 0, none⟩) 1 1) = w7 := ⟨_, rfl⟩
  rw [hw7] at b7 s7
  have X6 := ext_trans x4 (ext_trans xb xy)
  have Q7 := hid ((Q3.out.ext X6).shy s7 (fun k h1 h2 e => by omega))
  have O7 := hid (s7.ownG oy (fun k hk e => by simp at hk; omega))
  have B7 : Hid (Blk w7 gs 30 #[.string (str [1, 97, 0]), .int .i64 1, .int .i64 1, .int .i64 O, .slice (some ⟨gd, 0, none⟩) 1 1]) := hid (by simpa using b7)
  have Z7 : Hid (Shy (fun k => B ≤ k) w w7) := hid ((Z3.out.ext X6).trans s7 (fun k _ e => by omega))
  have hz7 : B ≤ w7.heap.size := by have h2 := X6.size; have h3 := s7.size; omega
  clear xb xy bs bs2 oy b7 s7 X6 x4 o4 hw6 Q3 Z3 Q1
  simp at r0
  go_upto_region 10 with (fail)
  clear r0 rf hw5 hgs hgd hw6' hw7
  have l0 := B7.out.cell 0
  have l1 := B7.out.cell 1
  have l2 := B7.out.cell 2
  have l3 := B7.out.cell 3
  have l4 := B7.out.cell 4
  simp at l0 l1 l2 l3 l4
  have CP := one_put Q7.out (nm := [1, 97, 0]) (ttl := O) (d := [121]) O7.out (fun k e => by omega) (by decide +kernel) (by decide) (by omega) (by decide) (rank := G) (at_ := (50 + b)) rG.1 rG.2 hin
  rw [RK2.out] at CP
  have CP := hid CP
  go_wp2_with fail
  with_reducible refine CP.out.mono ?_
  rintro e w8 ⟨rfl, q8, s8⟩
  have hz8 : B ≤ w8.heap.size := by have h2 := s8.size; omega
  have q8 : Qc (fun k => B ≤ k ∧ k < w8.heap.size) w8 g 3 _ := q8.mono (fun k h1 h2 => ⟨by rcases h2 with h2 | h2; exact h2.1; omega, h1⟩)
  have Z8 : Hid (Shy (fun k => B ≤ k) w w8) := hid (Z7.out.trans s8 (fun k _ e => e.1))
  have CG : Hid (Calls Try.prog 15 #[.pointer (some ⟨g, 0, none⟩), .string (str [1, 97, 0]), .int .i64 1, .int .i64 a5, .int .i64 (50 + b)] w8 fun e w' =>
      ∃ A' c', e = .returned (.agg #[.int .i64 1, .string (str [1, 97, 0]), .int .i64 1, .int .i64 1, .int .i64 lf, .slice A' 1 c', .int .i64 lf]) ∧ OwnG isT w' w8.heap.size 9 1 A' 1 c' (tvs [[121]]) ∧ Shy (fun k => B ≤ k ∧ k < w8.heap.size) w8 w') := hid (by
    have h1 := c_get q8 (n := [1, 97, 0]) (kind := 1) (rank := a5) (at_ := (50 + b)) (by decide) (by decide +kernel) hin (by decide)
    rw [RK3.out] at h1
    exact h1.mono fun e w' ⟨A, c, he, ho, _, hs⟩ => ⟨A, c, he, ho, hs⟩)
  clear q8 s8 CP l0 l1 l2 l3 l4 RK2 RK3 Q7 O7 B7
  go_wp2_with fail
  refine (a_in w8).mono ?_
  rintro e _ ⟨rfl, rfl⟩
  go_wp2_with fail
  with_reducible refine CG.out.mono ?_
  rintro e w9 ⟨A', c', rfl, o9, s9⟩
  have xb := ext_alloc w9 (.cells #[.int .i64 1, .string (str [1, 97, 0]), .int .i64 1, .int .i64 1, .int .i64 lf, .slice A' 1 c', .int .i64 lf] 37)
  have bx := Blk.new w9 37 #[.int .i64 1, .string (str [1, 97, 0]), .int .i64 1, .int .i64 1, .int .i64 lf, .slice A' 1 c', .int .i64 lf]
  obtain ⟨wx, hwx⟩ : ∃ wx, w9.alloc (.cells #[.int .i64 1, .string (str [1, 97, 0]), .int .i64 1, .int .i64 1, .int .i64 lf, .slice A' 1 c', .int .i64 lf] 37) = wx := ⟨_, rfl⟩
  obtain ⟨gx, hgx⟩ : ∃ gx, w9.heap.size = gx := ⟨_, rfl⟩
  rw [hwx] at xb bx
  rw [hgx] at bx
  have o9 := o9.ext xb
  have ZX : Hid (Shy (fun k => B ≤ k) w wx) := hid ((Z8.out.trans s9 (fun k _ e => e.1)).ext xb)
  have HWX := hid hwx
  have HGX := hid hgx
  obtain ⟨bd, od, rfl, hbd, hcd⟩ := tvs_at o9.rd (k := 0) (by decide)
  simp at hcd
  have l0 := bx.cell 0
  have l5 := bx.cell 5
  simp at l0 l5
  clear bx hwx hgx xb s9 CG o9
  go_upto_region 15 with (fail)
  rw [HWX.out, HGX.out]
  go_wp2_with fail
  go_ret
  exact ⟨rfl, ZX.out.below (by have := HB.out; omega) (fun k hk e => by omega)⟩
set_option maxHeartbeats 4000000 in
set_option maxRecDepth 100000 in
theorem ranks_a0 (a0 a1 a2 a3 a4 a5 : Int) (w : World) (h0 : -9223372036854775808 ≤ a0 ∧ a0 ≤ 9223372036854775807) (h1 : -9223372036854775808 ≤ a1 ∧ a1 ≤ 9223372036854775807) (h2 : -9223372036854775808 ≤ a2 ∧ a2 ≤ 9223372036854775807) (h3 : -9223372036854775808 ≤ a3 ∧ a3 ≤ 9223372036854775807) (h4 : -9223372036854775808 ≤ a4 ∧ a4 ≤ 9223372036854775807)
    {F G T O b : Int} (eF : wrap64 (1 + pick a0 3) = F ∧ IntKind.i64.wrap (1 + pick a0 3) = F ∧ 1 ≤ F ∧ F ≤ 3) (eG : wrap64 (1 + pick a1 3) = G ∧ IntKind.i64.wrap (1 + pick a1 3) = G ∧ 1 ≤ G ∧ G ≤ 3) (eT : wrap64 (1 + pick a2 1000) = T ∧ IntKind.i64.wrap (1 + pick a2 1000) = T ∧ 1 ≤ T ∧ T ≤ 1000) (eO : wrap64 (1 + pick a3 1000) = O ∧ IntKind.i64.wrap (1 + pick a3 1000) = O ∧ 1 ≤ O ∧ O ≤ 1000) (eb : pick a4 1001 = b ∧ 0 ≤ b ∧ b ≤ 1000)
    (hw : T ≤ b) (hr : ¬ a5 ≤ G) :
    Calls Try.prog 4 #[.int .i64 a0, .int .i64 a1, .int .i64 a2, .int .i64 a3, .int .i64 a4, .int .i64 a5] w fun e w' => e = .returned (.bool true) ∧ Below w.heap.size w w' := by
  obtain ⟨B, hB⟩ : ∃ B, w.heap.size = B := ⟨_, rfl⟩
  rw [hB]
  have HB := hid hB
  have AW := awake_yes w
  rw [hB] at AW
  have AW := hid AW
  have P0 := hid (fun W => pick_any a0 3 W h0 (by decide))
  have P1 := hid (fun W => pick_any a1 3 W h1 (by decide))
  have P2 := hid (fun W => pick_any a2 1000 W h2 (by decide))
  have P3 := hid (fun W => pick_any a3 1000 W h3 (by decide))
  have P4 := hid (fun W => pick_any a4 1001 W h4 (by decide))
  obtain ⟨eF1, eF2, rF⟩ := eF
  obtain ⟨eG1, eG2, rG⟩ := eG
  obtain ⟨eT1, eT2, rT⟩ := eT
  obtain ⟨eO1, eO2, rO⟩ := eO
  obtain ⟨eb1, rb⟩ := eb
  have RK2 := rk2_yes T F O G b [120] [121] rb.1 (.inl hw)
  have RK3 := rk3_no O G (50 + b + O) (50 + b) a5 [121] (by omega) hr
  have hin : inTime (50 + b) := by unfold inTime; omega
  obtain ⟨lf, hlf⟩ : ∃ x, (50 + b) + O - (50 + b) = x := ⟨_, rfl⟩
  have RK2 := hid RK2
  have RK3 := hid RK3
  clear hB h0 h1 h2 h3 h4 hlf
  go_enter Try.func4, Try.ntmps4
  go_wp2_with fail
  refine AW.out.mono ?_
  rintro e w0 ⟨rfl, x0⟩
  have Z0 : Hid (Shy (fun k => B ≤ k) w w0) := hid (Shy.of_ext (by have := HB.out; subst this; exact x0))
  have hz0 : B ≤ w0.heap.size := by have h1 := HB.out; have h2 := x0.size; omega
  clear x0 AW
  go_wp2_with fail
  refine (P0.out _).mono ?_
  rintro e _ ⟨rfl, rfl⟩
  go_wp2_with fail
  refine (P1.out _).mono ?_
  rintro e _ ⟨rfl, rfl⟩
  go_wp2_with fail
  refine (P2.out _).mono ?_
  rintro e _ ⟨rfl, rfl⟩
  go_wp2_with fail
  refine (P3.out _).mono ?_
  rintro e _ ⟨rfl, rfl⟩
  go_wp2_with fail
  refine (P4.out _).mono ?_
  rintro e _ ⟨rfl, rfl⟩
  have C0 := c_new 3 w0 (by decide)
  simp only [pt] at C0
  have C0 := hid C0
  go_wp2_with fail
  refine C0.out.mono ?_
  rintro e w1 ⟨g, rfl, q1, x1⟩
  have Q1 : Hid (Qc (fun k => B ≤ k) w1 g 3 ⟨0, []⟩) := hid (q1.mono (fun k _ e => by omega))
  have Z1 : Hid (Shy (fun k => B ≤ k) w w1) := hid (Z0.out.ext x1)
  have hz1 : B ≤ w1.heap.size := by have h2 := x1.size; omega
  clear q1 x1 C0
  clear P0 P1 P2 P3 P4
  go_wp2_with fail
  refine (set_in T w1).mono ?_
  rintro e w2 ⟨A, c, rfl, o2, x2⟩
  have q2 := (Q1.out.mono (V := fun k => B ≤ k ∧ k < w1.heap.size) (fun k h1 h2 => ⟨h2, h1⟩)).ext x2
  have CP := one_put q2 (nm := [1, 97, 0]) (ttl := T) (d := [120]) o2 (fun k e => e.2) (by decide +kernel) (by decide) (by omega) (by decide) (rank := F) (at_ := 50) rF.1 rF.2 (by decide)
  rw [rk1 T F [120]] at CP
  have CP := hid CP
  have hz2 : B ≤ w2.heap.size := by have h2 := x2.size; omega
  have Z2 : Hid (Shy (fun k => B ≤ k) w w2) := hid (Z1.out.ext x2)
  clear q2 o2 x2
  go_wp2_with fail
  with_reducible refine CP.out.mono ?_
  rintro e w3 ⟨rfl, q3, s3⟩
  have hz3 : B ≤ w3.heap.size := by have h2 := s3.size; omega
  have q3 : Qc (fun k => B ≤ k ∧ k < w3.heap.size) w3 g 3 _ := q3.mono (fun k h1 h2 => ⟨by rcases h2 with h2 | h2; exact h2.1; omega, h1⟩)
  have Q3 := hid q3
  have Z3 : Hid (Shy (fun k => B ≤ k) w w3) := hid (Z2.out.trans s3 (fun k _ e => e.1))
  clear q3 s3 CP
  go_wp2_with fail
  refine (set_in O w3).mono ?_
  rintro e w4 ⟨A1, c1, rfl, o4, x4⟩
  have xb := ext_alloc w4 (.cells #[.string (str [1, 97, 0]), .int .i64 1, .int .i64 1, .int .i64 O, .slice A1 1 c1] 30)
  have bs := Blk.new w4 30 #[.string (str [1, 97, 0]), .int .i64 1, .int .i64 1, .int .i64 O, .slice A1 1 c1]
  obtain ⟨w5, hw5⟩ : ∃ w5, w4.alloc (.cells #[.string (str [1, 97, 0]), .int .i64 1, .int .i64 1, .int .i64 O, .slice A1 1 c1] 30) = w5 := ⟨_, rfl⟩
  obtain ⟨gs, hgs⟩ : ∃ gs, w4.heap.size = gs := ⟨_, rfl⟩
  rw [hw5] at xb bs
  rw [hgs] at bs
  have xy := ext_alloc w5 (.cells #[.string (str [121])] 9)
  have oy : OwnG isT (w5.alloc (.cells #[.string (str [121])] 9)) w5.heap.size 9 1 (some ⟨w5.heap.size, 0, none⟩) 1 1 (tvs [[121]]) := OwnG.new (ok := isT) (base := w5.heap.size) (size := 1) (e := 9) w5 [.string (str [121])] 1 1 (Nat.le_refl _) rfl (Nat.le_refl _) (by simp [maxLen]) (by intro u hu; rw [List.mem_singleton] at hu; exact ⟨_, hu⟩)
  have bs2 := bs.ext xy
  obtain ⟨w6, hw6⟩ : ∃ w6, w5.alloc (.cells #[.string (str [121])] 9) = w6 := ⟨_, rfl⟩
  obtain ⟨gd, hgd⟩ : ∃ gd, w5.heap.size = gd := ⟨_, rfl⟩
  rw [hw6] at xy oy bs2
  rw [hgd] at oy
  have hw6' : w5.alloc (.cells #[.string ⟨#[121]⟩] 9) = w6 := hw6
  have hgs3 : w3.heap.size ≤ gs ∧ gs < gd := ⟨by have h2 := x4.size; omega, by have := bs.lt; omega⟩
  have r0 := bs2.cell
  have rf := bs2.frozen
  have b7 := bs2.set_ 4 (.slice (some ⟨gd, 0, none⟩) 1 1)
  have s7 := set_shy gs 4 (.slice (some ⟨gd, 0, none⟩) 1 1) w6
  obtain ⟨w7, hw7⟩ : ∃ w7, w6.setCell ⟨gs, 4, none⟩ (.slice (some ⟨gd, 0, none⟩) 1 1) = w7 := ⟨_, rfl⟩
  rw [hw7] at b7 s7
  have X6 := ext_trans x4 (ext_trans xb xy)
  have Q7 := hid ((Q3.out.ext X6).shy s7 (fun k h1 h2 e => by omega))
  have O7 := hid (s7.ownG oy (fun k hk e => by simp at hk; omega))
  have B7 : Hid (Blk w7 gs 30 #[.string (str [1, 97, 0]), .int .i64 1, .int .i64 1, .int .i64 O, .slice (some ⟨gd, 0, none⟩) 1 1]) := hid (by simpa using b7)
  have Z7 : Hid (Shy (fun k => B ≤ k) w w7) := hid ((Z3.out.ext X6).trans s7 (fun k _ e => by omega))
  have hz7 : B ≤ w7.heap.size := by have h2 := X6.size; have h3 := s7.size; omega
  clear xb xy bs bs2 oy b7 s7 X6 x4 o4 hw6 Q3 Z3 Q1
  simp at r0
  go_upto_region 10 with (fail)
  clear r0 rf hw5 hgs hgd hw6' hw7
  have l0 := B7.out.cell 0
  have l1 := B7.out.cell 1
  have l2 := B7.out.cell 2
  have l3 := B7.out.cell 3
  have l4 := B7.out.cell 4
  simp at l0 l1 l2 l3 l4
  have CP := one_put Q7.out (nm := [1, 97, 0]) (ttl := O) (d := [121]) O7.out (fun k e => by omega) (by decide +kernel) (by decide) (by omega) (by decide) (rank := G) (at_ := (50 + b)) rG.1 rG.2 hin
  rw [RK2.out] at CP
  have CP := hid CP
  go_wp2_with fail
  with_reducible refine CP.out.mono ?_
  rintro e w8 ⟨rfl, q8, s8⟩
  have hz8 : B ≤ w8.heap.size := by have h2 := s8.size; omega
  have q8 : Qc (fun k => B ≤ k ∧ k < w8.heap.size) w8 g 3 _ := q8.mono (fun k h1 h2 => ⟨by rcases h2 with h2 | h2; exact h2.1; omega, h1⟩)
  have Z8 : Hid (Shy (fun k => B ≤ k) w w8) := hid (Z7.out.trans s8 (fun k _ e => e.1))
  have CG : Hid (Calls Try.prog 15 #[.pointer (some ⟨g, 0, none⟩), .string (str [1, 97, 0]), .int .i64 1, .int .i64 a5, .int .i64 (50 + b)] w8 fun e w' =>
      ∃ A' c', e = .returned (.agg #[.int .i64 0, .string (str []), .int .i64 0, .int .i64 0, .int .i64 0, .slice A' 0 c', .int .i64 0]) ∧ OwnG isT w' w8.heap.size 9 1 A' 0 c' (tvs []) ∧ Shy (fun k => B ≤ k ∧ k < w8.heap.size) w8 w') := hid (by
    have h1 := c_get q8 (n := [1, 97, 0]) (kind := 1) (rank := a5) (at_ := (50 + b)) (by decide) (by decide +kernel) hin (by decide)
    rw [RK3.out] at h1
    exact h1.mono fun e w' ⟨A, c, he, ho, _, hs⟩ => ⟨A, c, he, ho, hs⟩)
  clear q8 s8 CP l0 l1 l2 l3 l4 RK2 RK3 Q7 O7 B7
  go_wp2_with fail
  refine (a_in w8).mono ?_
  rintro e _ ⟨rfl, rfl⟩
  go_wp2_with fail
  with_reducible refine CG.out.mono ?_
  rintro e w9 ⟨A', c', rfl, o9, s9⟩
  have xb := ext_alloc w9 (.cells #[.int .i64 0, .string (str []), .int .i64 0, .int .i64 0, .int .i64 0, .slice A' 0 c', .int .i64 0] 37)
  have bx := Blk.new w9 37 #[.int .i64 0, .string (str []), .int .i64 0, .int .i64 0, .int .i64 0, .slice A' 0 c', .int .i64 0]
  obtain ⟨wx, hwx⟩ : ∃ wx, w9.alloc (.cells #[.int .i64 0, .string (str []), .int .i64 0, .int .i64 0, .int .i64 0, .slice A' 0 c', .int .i64 0] 37) = wx := ⟨_, rfl⟩
  obtain ⟨gx, hgx⟩ : ∃ gx, w9.heap.size = gx := ⟨_, rfl⟩
  rw [hwx] at xb bx
  rw [hgx] at bx
  have o9 := o9.ext xb
  have ZX : Hid (Shy (fun k => B ≤ k) w wx) := hid ((Z8.out.trans s9 (fun k _ e => e.1)).ext xb)
  have HWX := hid hwx
  have HGX := hid hgx
  have l0 := bx.cell 0
  have l5 := bx.cell 5
  simp at l0 l5
  clear bx hwx hgx xb s9 CG o9
  go_upto_region 15 with (fail)
  rw [HWX.out, HGX.out]
  go_wp2_with fail
  go_ret
  exact ⟨rfl, ZX.out.below (by have := HB.out; omega) (fun k hk e => by omega)⟩
set_option maxHeartbeats 4000000 in
set_option maxRecDepth 100000 in
theorem ranks_b1 (a0 a1 a2 a3 a4 a5 : Int) (w : World) (h0 : -9223372036854775808 ≤ a0 ∧ a0 ≤ 9223372036854775807) (h1 : -9223372036854775808 ≤ a1 ∧ a1 ≤ 9223372036854775807) (h2 : -9223372036854775808 ≤ a2 ∧ a2 ≤ 9223372036854775807) (h3 : -9223372036854775808 ≤ a3 ∧ a3 ≤ 9223372036854775807) (h4 : -9223372036854775808 ≤ a4 ∧ a4 ≤ 9223372036854775807)
    {F G T O b : Int} (eF : wrap64 (1 + pick a0 3) = F ∧ IntKind.i64.wrap (1 + pick a0 3) = F ∧ 1 ≤ F ∧ F ≤ 3) (eG : wrap64 (1 + pick a1 3) = G ∧ IntKind.i64.wrap (1 + pick a1 3) = G ∧ 1 ≤ G ∧ G ≤ 3) (eT : wrap64 (1 + pick a2 1000) = T ∧ IntKind.i64.wrap (1 + pick a2 1000) = T ∧ 1 ≤ T ∧ T ≤ 1000) (eO : wrap64 (1 + pick a3 1000) = O ∧ IntKind.i64.wrap (1 + pick a3 1000) = O ∧ 1 ≤ O ∧ O ≤ 1000) (eb : pick a4 1001 = b ∧ 0 ≤ b ∧ b ≤ 1000)
    (hw : ¬ T ≤ b) (hv : F ≤ G) (hr : a5 ≤ G) :
    Calls Try.prog 4 #[.int .i64 a0, .int .i64 a1, .int .i64 a2, .int .i64 a3, .int .i64 a4, .int .i64 a5] w fun e w' => e = .returned (.bool true) ∧ Below w.heap.size w w' := by
  obtain ⟨B, hB⟩ : ∃ B, w.heap.size = B := ⟨_, rfl⟩
  rw [hB]
  have HB := hid hB
  have AW := awake_yes w
  rw [hB] at AW
  have AW := hid AW
  have P0 := hid (fun W => pick_any a0 3 W h0 (by decide))
  have P1 := hid (fun W => pick_any a1 3 W h1 (by decide))
  have P2 := hid (fun W => pick_any a2 1000 W h2 (by decide))
  have P3 := hid (fun W => pick_any a3 1000 W h3 (by decide))
  have P4 := hid (fun W => pick_any a4 1001 W h4 (by decide))
  obtain ⟨eF1, eF2, rF⟩ := eF
  obtain ⟨eG1, eG2, rG⟩ := eG
  obtain ⟨eT1, eT2, rT⟩ := eT
  obtain ⟨eO1, eO2, rO⟩ := eO
  obtain ⟨eb1, rb⟩ := eb
  have dT : decide (T ≤ b) = false := decide_eq_false hw
  have RK2 := rk2_yes T F O G b [120] [121] rb.1 (.inr hv)
  have RK3 := rk3_yes O G (50 + b + O) (50 + b) a5 [121] (by omega) hr
  have hin : inTime (50 + b) := by unfold inTime; omega
  obtain ⟨lf, hlf⟩ : ∃ x, (50 + b) + O - (50 + b) = x := ⟨_, rfl⟩
  rw [hlf] at RK3
  have RK2 := hid RK2
  have RK3 := hid RK3
  clear hB h0 h1 h2 h3 h4 hlf
  go_enter Try.func4, Try.ntmps4
  go_wp2_with fail
  refine AW.out.mono ?_
  rintro e w0 ⟨rfl, x0⟩
  have Z0 : Hid (Shy (fun k => B ≤ k) w w0) := hid (Shy.of_ext (by have := HB.out; subst this; exact x0))
  have hz0 : B ≤ w0.heap.size := by have h1 := HB.out; have h2 := x0.size; omega
  clear x0 AW
  go_wp2_with fail
  refine (P0.out _).mono ?_
  rintro e _ ⟨rfl, rfl⟩
  go_wp2_with fail
  refine (P1.out _).mono ?_
  rintro e _ ⟨rfl, rfl⟩
  go_wp2_with fail
  refine (P2.out _).mono ?_
  rintro e _ ⟨rfl, rfl⟩
  go_wp2_with fail
  refine (P3.out _).mono ?_
  rintro e _ ⟨rfl, rfl⟩
  go_wp2_with fail
  refine (P4.out _).mono ?_
  rintro e _ ⟨rfl, rfl⟩
  have C0 := c_new 3 w0 (by decide)
  simp only [pt] at C0
  have C0 := hid C0
  go_wp2_with fail
  refine C0.out.mono ?_
  rintro e w1 ⟨g, rfl, q1, x1⟩
  have Q1 : Hid (Qc (fun k => B ≤ k) w1 g 3 ⟨0, []⟩) := hid (q1.mono (fun k _ e => by omega))
  have Z1 : Hid (Shy (fun k => B ≤ k) w w1) := hid (Z0.out.ext x1)
  have hz1 : B ≤ w1.heap.size := by have h2 := x1.size; omega
  clear q1 x1 C0
  clear P0 P1 P2 P3 P4
  go_wp2_with fail
  refine (set_in T w1).mono ?_
  rintro e w2 ⟨A, c, rfl, o2, x2⟩
  have q2 := (Q1.out.mono (V := fun k => B ≤ k ∧ k < w1.heap.size) (fun k h1 h2 => ⟨h2, h1⟩)).ext x2
  have CP := one_put q2 (nm := [1, 97, 0]) (ttl := T) (d := [120]) o2 (fun k e => e.2) (by decide +kernel) (by decide) (by omega) (by decide) (rank := F) (at_ := 50) rF.1 rF.2 (by decide)
  rw [rk1 T F [120]] at CP
  have CP := hid CP
  have hz2 : B ≤ w2.heap.size := by have h2 := x2.size; omega
  have Z2 : Hid (Shy (fun k => B ≤ k) w w2) := hid (Z1.out.ext x2)
  clear q2 o2 x2
  go_wp2_with fail
  with_reducible refine CP.out.mono ?_
  rintro e w3 ⟨rfl, q3, s3⟩
  have hz3 : B ≤ w3.heap.size := by have h2 := s3.size; omega
  have q3 : Qc (fun k => B ≤ k ∧ k < w3.heap.size) w3 g 3 _ := q3.mono (fun k h1 h2 => ⟨by rcases h2 with h2 | h2; exact h2.1; omega, h1⟩)
  have Q3 := hid q3
  have Z3 : Hid (Shy (fun k => B ≤ k) w w3) := hid (Z2.out.trans s3 (fun k _ e => e.1))
  clear q3 s3 CP
  go_wp2_with fail
  refine (set_in O w3).mono ?_
  rintro e w4 ⟨A1, c1, rfl, o4, x4⟩
  have xb := ext_alloc w4 (.cells #[.string (str [1, 97, 0]), .int .i64 1, .int .i64 1, .int .i64 O, .slice A1 1 c1] 30)
  have bs := Blk.new w4 30 #[.string (str [1, 97, 0]), .int .i64 1, .int .i64 1, .int .i64 O, .slice A1 1 c1]
  obtain ⟨w5, hw5⟩ : ∃ w5, w4.alloc (.cells #[.string (str [1, 97, 0]), .int .i64 1, .int .i64 1, .int .i64 O, .slice A1 1 c1] 30) = w5 := ⟨_, rfl⟩
  obtain ⟨gs, hgs⟩ : ∃ gs, w4.heap.size = gs := ⟨_, rfl⟩
  rw [hw5] at xb bs
  rw [hgs] at bs
  have xy := ext_alloc w5 (.cells #[.string (str [121])] 9)
  have oy : OwnG isT (w5.alloc (.cells #[.string (str [121])] 9)) w5.heap.size 9 1 (some ⟨w5.heap.size, 0, none⟩) 1 1 (tvs [[121]]) := OwnG.new (ok := isT) (base := w5.heap.size) (size := 1) (e := 9) w5 [.string (str [121])] 1 1 (Nat.le_refl _) rfl (Nat.le_refl _) (by simp [maxLen]) (by intro u hu; rw [List.mem_singleton] at hu; exact ⟨_, hu⟩)
  have bs2 := bs.ext xy
  obtain ⟨w6, hw6⟩ : ∃ w6, w5.alloc (.cells #[.string (str [121])] 9) = w6 := ⟨_, rfl⟩
  obtain ⟨gd, hgd⟩ : ∃ gd, w5.heap.size = gd := ⟨_, rfl⟩
  rw [hw6] at xy oy bs2
  rw [hgd] at oy
  have hw6' : w5.alloc (.cells #[.string ⟨#[121]⟩] 9) = w6 := hw6
  have hgs3 : w3.heap.size ≤ gs ∧ gs < gd := ⟨by have h2 := x4.size; omega, by have := bs.lt; omega⟩
  have r0 := bs2.cell
  have rf := bs2.frozen
  have b7 := bs2.set_ 4 (.slice (some ⟨gd, 0, none⟩) 1 1)
  have s7 := set_shy gs 4 (.slice (some ⟨gd, 0, none⟩) 1 1) w6
  obtain ⟨w7, hw7⟩ : ∃ w7, w6.setCell ⟨gs, 4, none⟩ (.slice (some ⟨gd, 0, none⟩) 1 1) = w7 := ⟨_, rfl⟩
  rw [hw7] at b7 s7
  have X6 := ext_trans x4 (ext_trans xb xy)
  have Q7 := hid ((Q3.out.ext X6).shy s7 (fun k h1 h2 e => by omega))
  have O7 := hid (s7.ownG oy (fun k hk e => by simp at hk; omega))
  have B7 : Hid (Blk w7 gs 30 #[.string (str [1, 97, 0]), .int .i64 1, .int .i64 1, .int .i64 O, .slice (some ⟨gd, 0, none⟩) 1 1]) := hid (by simpa using b7)
  have Z7 : Hid (Shy (fun k => B ≤ k) w w7) := hid ((Z3.out.ext X6).trans s7 (fun k _ e => by omega))
  have hz7 : B ≤ w7.heap.size := by have h2 := X6.size; have h3 := s7.size; omega
  clear xb xy bs bs2 oy b7 s7 X6 x4 o4 hw6 Q3 Z3 Q1
  simp at r0
  go_upto_region 10 with (fail)
  clear r0 rf hw5 hgs hgd hw6' hw7
  have l0 := B7.out.cell 0
  have l1 := B7.out.cell 1
  have l2 := B7.out.cell 2
  have l3 := B7.out.cell 3
  have l4 := B7.out.cell 4
  simp at l0 l1 l2 l3 l4
  have CP := one_put Q7.out (nm := [1, 97, 0]) (ttl := O) (d := [121]) O7.out (fun k e => by omega) (by decide +kernel) (by decide) (by omega) (by decide) (rank := G) (at_ := (50 + b)) rG.1 rG.2 hin
  rw [RK2.out] at CP
  have CP := hid CP
  go_wp2_with fail
  with_reducible refine CP.out.mono ?_
  rintro e w8 ⟨rfl, q8, s8⟩
  have hz8 : B ≤ w8.heap.size := by have h2 := s8.size; omega
  have q8 : Qc (fun k => B ≤ k ∧ k < w8.heap.size) w8 g 3 _ := q8.mono (fun k h1 h2 => ⟨by rcases h2 with h2 | h2; exact h2.1; omega, h1⟩)
  have Z8 : Hid (Shy (fun k => B ≤ k) w w8) := hid (Z7.out.trans s8 (fun k _ e => e.1))
  have CG : Hid (Calls Try.prog 15 #[.pointer (some ⟨g, 0, none⟩), .string (str [1, 97, 0]), .int .i64 1, .int .i64 a5, .int .i64 (50 + b)] w8 fun e w' =>
      ∃ A' c', e = .returned (.agg #[.int .i64 1, .string (str [1, 97, 0]), .int .i64 1, .int .i64 1, .int .i64 lf, .slice A' 1 c', .int .i64 lf]) ∧ OwnG isT w' w8.heap.size 9 1 A' 1 c' (tvs [[121]]) ∧ Shy (fun k => B ≤ k ∧ k < w8.heap.size) w8 w') := hid (by
    have h1 := c_get q8 (n := [1, 97, 0]) (kind := 1) (rank := a5) (at_ := (50 + b)) (by decide) (by decide +kernel) hin (by decide)
    rw [RK3.out] at h1
    exact h1.mono fun e w' ⟨A, c, he, ho, _, hs⟩ => ⟨A, c, he, ho, hs⟩)
  clear q8 s8 CP l0 l1 l2 l3 l4 RK2 RK3 Q7 O7 B7
  go_wp2_with fail
  refine (a_in w8).mono ?_
  rintro e _ ⟨rfl, rfl⟩
  go_wp2_with fail
  with_reducible refine CG.out.mono ?_
  rintro e w9 ⟨A', c', rfl, o9, s9⟩
  have xb := ext_alloc w9 (.cells #[.int .i64 1, .string (str [1, 97, 0]), .int .i64 1, .int .i64 1, .int .i64 lf, .slice A' 1 c', .int .i64 lf] 37)
  have bx := Blk.new w9 37 #[.int .i64 1, .string (str [1, 97, 0]), .int .i64 1, .int .i64 1, .int .i64 lf, .slice A' 1 c', .int .i64 lf]
  obtain ⟨wx, hwx⟩ : ∃ wx, w9.alloc (.cells #[.int .i64 1, .string (str [1, 97, 0]), .int .i64 1, .int .i64 1, .int .i64 lf, .slice A' 1 c', .int .i64 lf] 37) = wx := ⟨_, rfl⟩
  obtain ⟨gx, hgx⟩ : ∃ gx, w9.heap.size = gx := ⟨_, rfl⟩
  rw [hwx] at xb bx
  rw [hgx] at bx
  have o9 := o9.ext xb
  have ZX : Hid (Shy (fun k => B ≤ k) w wx) := hid ((Z8.out.trans s9 (fun k _ e => e.1)).ext xb)
  have HWX := hid hwx
  have HGX := hid hgx
  obtain ⟨bd, od, rfl, hbd, hcd⟩ := tvs_at o9.rd (k := 0) (by decide)
  simp at hcd
  have l0 := bx.cell 0
  have l5 := bx.cell 5
  simp at l0 l5
  clear bx hwx hgx xb s9 CG o9
  go_upto_region 15 with (fail)
  rw [HWX.out, HGX.out]
  go_wp2_with fail
  go_ret
  exact ⟨rfl, ZX.out.below (by have := HB.out; omega) (fun k hk e => by omega)⟩
set_option maxHeartbeats 4000000 in
set_option maxRecDepth 100000 in
theorem ranks_b0 (a0 a1 a2 a3 a4 a5 : Int) (w : World) (h0 : -9223372036854775808 ≤ a0 ∧ a0 ≤ 9223372036854775807) (h1 : -9223372036854775808 ≤ a1 ∧ a1 ≤ 9223372036854775807) (h2 : -9223372036854775808 ≤ a2 ∧ a2 ≤ 9223372036854775807) (h3 : -9223372036854775808 ≤ a3 ∧ a3 ≤ 9223372036854775807) (h4 : -9223372036854775808 ≤ a4 ∧ a4 ≤ 9223372036854775807)
    {F G T O b : Int} (eF : wrap64 (1 + pick a0 3) = F ∧ IntKind.i64.wrap (1 + pick a0 3) = F ∧ 1 ≤ F ∧ F ≤ 3) (eG : wrap64 (1 + pick a1 3) = G ∧ IntKind.i64.wrap (1 + pick a1 3) = G ∧ 1 ≤ G ∧ G ≤ 3) (eT : wrap64 (1 + pick a2 1000) = T ∧ IntKind.i64.wrap (1 + pick a2 1000) = T ∧ 1 ≤ T ∧ T ≤ 1000) (eO : wrap64 (1 + pick a3 1000) = O ∧ IntKind.i64.wrap (1 + pick a3 1000) = O ∧ 1 ≤ O ∧ O ≤ 1000) (eb : pick a4 1001 = b ∧ 0 ≤ b ∧ b ≤ 1000)
    (hw : ¬ T ≤ b) (hv : F ≤ G) (hr : ¬ a5 ≤ G) :
    Calls Try.prog 4 #[.int .i64 a0, .int .i64 a1, .int .i64 a2, .int .i64 a3, .int .i64 a4, .int .i64 a5] w fun e w' => e = .returned (.bool true) ∧ Below w.heap.size w w' := by
  obtain ⟨B, hB⟩ : ∃ B, w.heap.size = B := ⟨_, rfl⟩
  rw [hB]
  have HB := hid hB
  have AW := awake_yes w
  rw [hB] at AW
  have AW := hid AW
  have P0 := hid (fun W => pick_any a0 3 W h0 (by decide))
  have P1 := hid (fun W => pick_any a1 3 W h1 (by decide))
  have P2 := hid (fun W => pick_any a2 1000 W h2 (by decide))
  have P3 := hid (fun W => pick_any a3 1000 W h3 (by decide))
  have P4 := hid (fun W => pick_any a4 1001 W h4 (by decide))
  obtain ⟨eF1, eF2, rF⟩ := eF
  obtain ⟨eG1, eG2, rG⟩ := eG
  obtain ⟨eT1, eT2, rT⟩ := eT
  obtain ⟨eO1, eO2, rO⟩ := eO
  obtain ⟨eb1, rb⟩ := eb
  have dT : decide (T ≤ b) = false := decide_eq_false hw
  have RK2 := rk2_yes T F O G b [120] [121] rb.1 (.inr hv)
  have RK3 := rk3_no O G (50 + b + O) (50 + b) a5 [121] (by omega) hr
  have hin : inTime (50 + b) := by unfold inTime; omega
  obtain ⟨lf, hlf⟩ : ∃ x, (50 + b) + O - (50 + b) = x := ⟨_, rfl⟩
  have RK2 := hid RK2
  have RK3 := hid RK3
  clear hB h0 h1 h2 h3 h4 hlf
  go_enter Try.func4, Try.ntmps4
  go_wp2_with fail
  refine AW.out.mono ?_
  rintro e w0 ⟨rfl, x0⟩
  have Z0 : Hid (Shy (fun k => B ≤ k) w w0) := hid (Shy.of_ext (by have := HB.out; subst this; exact x0))
  have hz0 : B ≤ w0.heap.size := by have h1 := HB.out; have h2 := x0.size; omega
  clear x0 AW
  go_wp2_with fail
  refine (P0.out _).mono ?_
  rintro e _ ⟨rfl, rfl⟩
  go_wp2_with fail
  refine (P1.out _).mono ?_
  rintro e _ ⟨rfl, rfl⟩
  go_wp2_with fail
  refine (P2.out _).mono ?_
  rintro e _ ⟨rfl, rfl⟩
  go_wp2_with fail
  refine (P3.out _).mono ?_
  rintro e _ ⟨rfl, rfl⟩
  go_wp2_with fail
  refine (P4.out _).mono ?_
  rintro e _ ⟨rfl, rfl⟩
  have C0 := c_new 3 w0 (by decide)
  simp only [pt] at C0
  have C0 := hid C0
  go_wp2_with fail
  refine C0.out.mono ?_
  rintro e w1 ⟨g, rfl, q1, x1⟩
  have Q1 : Hid (Qc (fun k => B ≤ k) w1 g 3 ⟨0, []⟩) := hid (q1.mono (fun k _ e => by omega))
  have Z1 : Hid (Shy (fun k => B ≤ k) w w1) := hid (Z0.out.ext x1)
  have hz1 : B ≤ w1.heap.size := by have h2 := x1.size; omega
  clear q1 x1 C0
  clear P0 P1 P2 P3 P4
  go_wp2_with fail
  refine (set_in T w1).mono ?_
  rintro e w2 ⟨A, c, rfl, o2, x2⟩
  have q2 := (Q1.out.mono (V := fun k => B ≤ k ∧ k < w1.heap.size) (fun k h1 h2 => ⟨h2, h1⟩)).ext x2
  have CP := one_put q2 (nm := [1, 97, 0]) (ttl := T) (d := [120]) o2 (fun k e => e.2) (by decide +kernel) (by decide) (by omega) (by decide) (rank := F) (at_ := 50) rF.1 rF.2 (by decide)
  rw [rk1 T F [120]] at CP
  have CP := hid CP
  have hz2 : B ≤ w2.heap.size := by have h2 := x2.size; omega
  have Z2 : Hid (Shy (fun k => B ≤ k) w w2) := hid (Z1.out.ext x2)
  clear q2 o2 x2
  go_wp2_with fail
  with_reducible refine CP.out.mono ?_
  rintro e w3 ⟨rfl, q3, s3⟩
  have hz3 : B ≤ w3.heap.size := by have h2 := s3.size; omega
  have q3 : Qc (fun k => B ≤ k ∧ k < w3.heap.size) w3 g 3 _ := q3.mono (fun k h1 h2 => ⟨by rcases h2 with h2 | h2; exact h2.1; omega, h1⟩)
  have Q3 := hid q3
  have Z3 : Hid (Shy (fun k => B ≤ k) w w3) := hid (Z2.out.trans s3 (fun k _ e => e.1))
  clear q3 s3 CP
  go_wp2_with fail
  refine (set_in O w3).mono ?_
  rintro e w4 ⟨A1, c1, rfl, o4, x4⟩
  have xb := ext_alloc w4 (.cells #[.string (str [1, 97, 0]), .int .i64 1, .int .i64 1, .int .i64 O, .slice A1 1 c1] 30)
  have bs := Blk.new w4 30 #[.string (str [1, 97, 0]), .int .i64 1, .int .i64 1, .int .i64 O, .slice A1 1 c1]
  obtain ⟨w5, hw5⟩ : ∃ w5, w4.alloc (.cells #[.string (str [1, 97, 0]), .int .i64 1, .int .i64 1, .int .i64 O, .slice A1 1 c1] 30) = w5 := ⟨_, rfl⟩
  obtain ⟨gs, hgs⟩ : ∃ gs, w4.heap.size = gs := ⟨_, rfl⟩
  rw [hw5] at xb bs
  rw [hgs] at bs
  have xy := ext_alloc w5 (.cells #[.string (str [121])] 9)
  have oy : OwnG isT (w5.alloc (.cells #[.string (str [121])] 9)) w5.heap.size 9 1 (some ⟨w5.heap.size, 0, none⟩) 1 1 (tvs [[121]]) := OwnG.new (ok := isT) (base := w5.heap.size) (size := 1) (e := 9) w5 [.string (str [121])] 1 1 (Nat.le_refl _) rfl (Nat.le_refl _) (by simp [maxLen]) (by intro u hu; rw [List.mem_singleton] at hu; exact ⟨_, hu⟩)
  have bs2 := bs.ext xy
  obtain ⟨w6, hw6⟩ : ∃ w6, w5.alloc (.cells #[.string (str [121])] 9) = w6 := ⟨_, rfl⟩
  obtain ⟨gd, hgd⟩ : ∃ gd, w5.heap.size = gd := ⟨_, rfl⟩
  rw [hw6] at xy oy bs2
  rw [hgd] at oy
  have hw6' : w5.alloc (.cells #[.string ⟨#[121]⟩] 9) = w6 := hw6
  have hgs3 : w3.heap.size ≤ gs ∧ gs < gd := ⟨by have h2 := x4.size; omega, by have := bs.lt; omega⟩
  have r0 := bs2.cell
  have rf := bs2.frozen
  have b7 := bs2.set_ 4 (.slice (some ⟨gd, 0, none⟩) 1 1)
  have s7 := set_shy gs 4 (.slice (some ⟨gd, 0, none⟩) 1 1) w6
  obtain ⟨w7, hw7⟩ : ∃ w7, w6.setCell ⟨gs, 4, none⟩ (.slice (some ⟨gd, 0, none⟩) 1 1) = w7 := ⟨_, rfl⟩
  rw [hw7] at b7 s7
  have X6 := ext_trans x4 (ext_trans xb xy)
  have Q7 := hid ((Q3.out.ext X6).shy s7 (fun k h1 h2 e => by omega))
  have O7 := hid (s7.ownG oy (fun k hk e => by simp at hk; omega))
  have B7 : Hid (Blk w7 gs 30 #[.string (str [1, 97, 0]), .int .i64 1, .int .i64 1, .int .i64 O, .slice (some ⟨gd, 0, none⟩) 1 1]) := hid (by simpa using b7)
  have Z7 : Hid (Shy (fun k => B ≤ k) w w7) := hid ((Z3.out.ext X6).trans s7 (fun k _ e => by omega))
  have hz7 : B ≤ w7.heap.size := by have h2 := X6.size; have h3 := s7.size; omega
  clear xb xy bs bs2 oy b7 s7 X6 x4 o4 hw6 Q3 Z3 Q1
  simp at r0
  go_upto_region 10 with (fail)
  clear r0 rf hw5 hgs hgd hw6' hw7
  have l0 := B7.out.cell 0
  have l1 := B7.out.cell 1
  have l2 := B7.out.cell 2
  have l3 := B7.out.cell 3
  have l4 := B7.out.cell 4
  simp at l0 l1 l2 l3 l4
  have CP := one_put Q7.out (nm := [1, 97, 0]) (ttl := O) (d := [121]) O7.out (fun k e => by omega) (by decide +kernel) (by decide) (by omega) (by decide) (rank := G) (at_ := (50 + b)) rG.1 rG.2 hin
  rw [RK2.out] at CP
  have CP := hid CP
  go_wp2_with fail
  with_reducible refine CP.out.mono ?_
  rintro e w8 ⟨rfl, q8, s8⟩
  have hz8 : B ≤ w8.heap.size := by have h2 := s8.size; omega
  have q8 : Qc (fun k => B ≤ k ∧ k < w8.heap.size) w8 g 3 _ := q8.mono (fun k h1 h2 => ⟨by rcases h2 with h2 | h2; exact h2.1; omega, h1⟩)
  have Z8 : Hid (Shy (fun k => B ≤ k) w w8) := hid (Z7.out.trans s8 (fun k _ e => e.1))
  have CG : Hid (Calls Try.prog 15 #[.pointer (some ⟨g, 0, none⟩), .string (str [1, 97, 0]), .int .i64 1, .int .i64 a5, .int .i64 (50 + b)] w8 fun e w' =>
      ∃ A' c', e = .returned (.agg #[.int .i64 0, .string (str []), .int .i64 0, .int .i64 0, .int .i64 0, .slice A' 0 c', .int .i64 0]) ∧ OwnG isT w' w8.heap.size 9 1 A' 0 c' (tvs []) ∧ Shy (fun k => B ≤ k ∧ k < w8.heap.size) w8 w') := hid (by
    have h1 := c_get q8 (n := [1, 97, 0]) (kind := 1) (rank := a5) (at_ := (50 + b)) (by decide) (by decide +kernel) hin (by decide)
    rw [RK3.out] at h1
    exact h1.mono fun e w' ⟨A, c, he, ho, _, hs⟩ => ⟨A, c, he, ho, hs⟩)
  clear q8 s8 CP l0 l1 l2 l3 l4 RK2 RK3 Q7 O7 B7
  go_wp2_with fail
  refine (a_in w8).mono ?_
  rintro e _ ⟨rfl, rfl⟩
  go_wp2_with fail
  with_reducible refine CG.out.mono ?_
  rintro e w9 ⟨A', c', rfl, o9, s9⟩
  have xb := ext_alloc w9 (.cells #[.int .i64 0, .string (str []), .int .i64 0, .int .i64 0, .int .i64 0, .slice A' 0 c', .int .i64 0] 37)
  have bx := Blk.new w9 37 #[.int .i64 0, .string (str []), .int .i64 0, .int .i64 0, .int .i64 0, .slice A' 0 c', .int .i64 0]
  obtain ⟨wx, hwx⟩ : ∃ wx, w9.alloc (.cells #[.int .i64 0, .string (str []), .int .i64 0, .int .i64 0, .int .i64 0, .slice A' 0 c', .int .i64 0] 37) = wx := ⟨_, rfl⟩
  obtain ⟨gx, hgx⟩ : ∃ gx, w9.heap.size = gx := ⟨_, rfl⟩
  rw [hwx] at xb bx
  rw [hgx] at bx
  have o9 := o9.ext xb
  have ZX : Hid (Shy (fun k => B ≤ k) w wx) := hid ((Z8.out.trans s9 (fun k _ e => e.1)).ext xb)
  have HWX := hid hwx
  have HGX := hid hgx
  have l0 := bx.cell 0
  have l5 := bx.cell 5
  simp at l0 l5
  clear bx hwx hgx xb s9 CG o9
  go_upto_region 15 with (fail)
  rw [HWX.out, HGX.out]
  go_wp2_with fail
  go_ret
  exact ⟨rfl, ZX.out.below (by have := HB.out; omega) (fun k hk e => by omega)⟩
set_option maxHeartbeats 4000000 in
set_option maxRecDepth 100000 in
theorem ranks_c1 (a0 a1 a2 a3 a4 a5 : Int) (w : World) (h0 : -9223372036854775808 ≤ a0 ∧ a0 ≤ 9223372036854775807) (h1 : -9223372036854775808 ≤ a1 ∧ a1 ≤ 9223372036854775807) (h2 : -9223372036854775808 ≤ a2 ∧ a2 ≤ 9223372036854775807) (h3 : -9223372036854775808 ≤ a3 ∧ a3 ≤ 9223372036854775807) (h4 : -9223372036854775808 ≤ a4 ∧ a4 ≤ 9223372036854775807)
    {F G T O b : Int} (eF : wrap64 (1 + pick a0 3) = F ∧ IntKind.i64.wrap (1 + pick a0 3) = F ∧ 1 ≤ F ∧ F ≤ 3) (eG : wrap64 (1 + pick a1 3) = G ∧ IntKind.i64.wrap (1 + pick a1 3) = G ∧ 1 ≤ G ∧ G ≤ 3) (eT : wrap64 (1 + pick a2 1000) = T ∧ IntKind.i64.wrap (1 + pick a2 1000) = T ∧ 1 ≤ T ∧ T ≤ 1000) (eO : wrap64 (1 + pick a3 1000) = O ∧ IntKind.i64.wrap (1 + pick a3 1000) = O ∧ 1 ≤ O ∧ O ≤ 1000) (eb : pick a4 1001 = b ∧ 0 ≤ b ∧ b ≤ 1000)
    (hw : ¬ T ≤ b) (hv : ¬ F ≤ G) (hr : a5 ≤ F) :
    Calls Try.prog 4 #[.int .i64 a0, .int .i64 a1, .int .i64 a2, .int .i64 a3, .int .i64 a4, .int .i64 a5] w fun e w' => e = .returned (.bool true) ∧ Below w.heap.size w w' := by
  obtain ⟨B, hB⟩ : ∃ B, w.heap.size = B := ⟨_, rfl⟩
  rw [hB]
  have HB := hid hB
  have AW := awake_yes w
  rw [hB] at AW
  have AW := hid AW
  have P0 := hid (fun W => pick_any a0 3 W h0 (by decide))
  have P1 := hid (fun W => pick_any a1 3 W h1 (by decide))
  have P2 := hid (fun W => pick_any a2 1000 W h2 (by decide))
  have P3 := hid (fun W => pick_any a3 1000 W h3 (by decide))
  have P4 := hid (fun W => pick_any a4 1001 W h4 (by decide))
  obtain ⟨eF1, eF2, rF⟩ := eF
  obtain ⟨eG1, eG2, rG⟩ := eG
  obtain ⟨eT1, eT2, rT⟩ := eT
  obtain ⟨eO1, eO2, rO⟩ := eO
  obtain ⟨eb1, rb⟩ := eb
  have dT : decide (T ≤ b) = false := decide_eq_false hw
  have dF : decide (F ≤ G) = false := decide_eq_false hv
  have RK2 := rk2_no T F O G b [120] [121] rb.1 hw hv rF.2
  have RK3 := rk3_yes T F (50 + T) (50 + b) a5 [120] (by omega) hr
  have hin : inTime (50 + b) := by unfold inTime; omega
  obtain ⟨lf, hlf⟩ : ∃ x, 50 + T - (50 + b) = x := ⟨_, rfl⟩
  rw [hlf] at RK3
  have RK2 := hid RK2
  have RK3 := hid RK3
  clear hB h0 h1 h2 h3 h4 hlf
  go_enter Try.func4, Try.ntmps4
  go_wp2_with fail
  refine AW.out.mono ?_
  rintro e w0 ⟨rfl, x0⟩
  have Z0 : Hid (Shy (fun k => B ≤ k) w w0) := hid (Shy.of_ext (by have := HB.out; subst this; exact x0))
  have hz0 : B ≤ w0.heap.size := by have h1 := HB.out; have h2 := x0.size; omega
  clear x0 AW
  go_wp2_with fail
  refine (P0.out _).mono ?_
  rintro e _ ⟨rfl, rfl⟩
  go_wp2_with fail
  refine (P1.out _).mono ?_
  rintro e _ ⟨rfl, rfl⟩
  go_wp2_with fail
  refine (P2.out _).mono ?_
  rintro e _ ⟨rfl, rfl⟩
  go_wp2_with fail
  refine (P3.out _).mono ?_
  rintro e _ ⟨rfl, rfl⟩
  go_wp2_with fail
  refine (P4.out _).mono ?_
  rintro e _ ⟨rfl, rfl⟩
  have C0 := c_new 3 w0 (by decide)
  simp only [pt] at C0
  have C0 := hid C0
  go_wp2_with fail
  refine C0.out.mono ?_
  rintro e w1 ⟨g, rfl, q1, x1⟩
  have Q1 : Hid (Qc (fun k => B ≤ k) w1 g 3 ⟨0, []⟩) := hid (q1.mono (fun k _ e => by omega))
  have Z1 : Hid (Shy (fun k => B ≤ k) w w1) := hid (Z0.out.ext x1)
  have hz1 : B ≤ w1.heap.size := by have h2 := x1.size; omega
  clear q1 x1 C0
  clear P0 P1 P2 P3 P4
  go_wp2_with fail
  refine (set_in T w1).mono ?_
  rintro e w2 ⟨A, c, rfl, o2, x2⟩
  have q2 := (Q1.out.mono (V := fun k => B ≤ k ∧ k < w1.heap.size) (fun k h1 h2 => ⟨h2, h1⟩)).ext x2
  have CP := one_put q2 (nm := [1, 97, 0]) (ttl := T) (d := [120]) o2 (fun k e => e.2) (by decide +kernel) (by decide) (by omega) (by decide) (rank := F) (at_ := 50) rF.1 rF.2 (by decide)
  rw [rk1 T F [120]] at CP
  have CP := hid CP
  have hz2 : B ≤ w2.heap.size := by have h2 := x2.size; omega
  have Z2 : Hid (Shy (fun k => B ≤ k) w w2) := hid (Z1.out.ext x2)
  clear q2 o2 x2
  go_wp2_with fail
  with_reducible refine CP.out.mono ?_
  rintro e w3 ⟨rfl, q3, s3⟩
  have hz3 : B ≤ w3.heap.size := by have h2 := s3.size; omega
  have q3 : Qc (fun k => B ≤ k ∧ k < w3.heap.size) w3 g 3 _ := q3.mono (fun k h1 h2 => ⟨by rcases h2 with h2 | h2; exact h2.1; omega, h1⟩)
  have Q3 := hid q3
  have Z3 : Hid (Shy (fun k => B ≤ k) w w3) := hid (Z2.out.trans s3 (fun k _ e => e.1))
  clear q3 s3 CP
  go_wp2_with fail
  refine (set_in O w3).mono ?_
  rintro e w4 ⟨A1, c1, rfl, o4, x4⟩
  have xb := ext_alloc w4 (.cells #[.string (str [1, 97, 0]), .int .i64 1, .int .i64 1, .int .i64 O, .slice A1 1 c1] 30)
  have bs := Blk.new w4 30 #[.string (str [1, 97, 0]), .int .i64 1, .int .i64 1, .int .i64 O, .slice A1 1 c1]
  obtain ⟨w5, hw5⟩ : ∃ w5, w4.alloc (.cells #[.string (str [1, 97, 0]), .int .i64 1, .int .i64 1, .int .i64 O, .slice A1 1 c1] 30) = w5 := ⟨_, rfl⟩
  obtain ⟨gs, hgs⟩ : ∃ gs, w4.heap.size = gs := ⟨_, rfl⟩
  rw [hw5] at xb bs
  rw [hgs] at bs
  have xy := ext_alloc w5 (.cells #[.string (str [121])] 9)
  have oy : OwnG isT (w5.alloc (.cells #[.string (str [121])] 9)) w5.heap.size 9 1 (some ⟨w5.heap.size, 0, none⟩) 1 1 (tvs [[121]]) := OwnG.new (ok := isT) (base := w5.heap.size) (size := 1) (e := 9) w5 [.string (str [121])] 1 1 (Nat.le_refl _) rfl (Nat.le_refl _) (by simp [maxLen]) (by intro u hu; rw [List.mem_singleton] at hu; exact ⟨_, hu⟩)
  have bs2 := bs.ext xy
  obtain ⟨w6, hw6⟩ : ∃ w6, w5.alloc (.cells #[.string (str [121])] 9) = w6 := ⟨_, rfl⟩
  obtain ⟨gd, hgd⟩ : ∃ gd, w5.heap.size = gd := ⟨_, rfl⟩
  rw [hw6] at xy oy bs2
  rw [hgd] at oy
  have hw6' : w5.alloc (.cells #[.string ⟨#[121]⟩] 9) = w6 := hw6
  have hgs3 : w3.heap.size ≤ gs ∧ gs < gd := ⟨by have h2 := x4.size; omega, by have := bs.lt; omega⟩
  have r0 := bs2.cell
  have rf := bs2.frozen
  have b7 := bs2.set_ 4 (.slice (some ⟨gd, 0, none⟩) 1 1)
  have s7 := set_shy gs 4 (.slice (some ⟨gd, 0, none⟩) 1 1) w6
  obtain ⟨w7, hw7⟩ : ∃ w7, w6.setCell ⟨gs, 4, none⟩ (.slice (some ⟨gd, 0, none⟩) 1 1) = w7 := ⟨_, rfl⟩
  rw [hw7] at b7 s7
  have X6 := ext_trans x4 (ext_trans xb xy)
  have Q7 := hid ((Q3.out.ext X6).shy s7 (fun k h1 h2 e => by omega))
  have O7 := hid (s7.ownG oy (fun k hk e => by simp at hk; omega))
  have B7 : Hid (Blk w7 gs 30 #[.string (str [1, 97, 0]), .int .i64 1, .int .i64 1, .int .i64 O, .slice (some ⟨gd, 0, none⟩) 1 1]) := hid (by simpa using b7)
  have Z7 : Hid (Shy (fun k => B ≤ k) w w7) := hid ((Z3.out.ext X6).trans s7 (fun k _ e => by omega))
  have hz7 : B ≤ w7.heap.size := by have h2 := X6.size; have h3 := s7.size; omega
  clear xb xy bs bs2 oy b7 s7 X6 x4 o4 hw6 Q3 Z3 Q1
  simp at r0
  go_upto_region 10 with (fail)
  clear r0 rf hw5 hgs hgd hw6' hw7
  have l0 := B7.out.cell 0
  have l1 := B7.out.cell 1
  have l2 := B7.out.cell 2
  have l3 := B7.out.cell 3
  have l4 := B7.out.cell 4
  simp at l0 l1 l2 l3 l4
  have CP := one_put Q7.out (nm := [1, 97, 0]) (ttl := O) (d := [121]) O7.out (fun k e => by omega) (by decide +kernel) (by decide) (by omega) (by decide) (rank := G) (at_ := (50 + b)) rG.1 rG.2 hin
  rw [RK2.out] at CP
  have CP := hid CP
  go_wp2_with fail
  with_reducible refine CP.out.mono ?_
  rintro e w8 ⟨rfl, q8, s8⟩
  have hz8 : B ≤ w8.heap.size := by have h2 := s8.size; omega
  have q8 : Qc (fun k => B ≤ k ∧ k < w8.heap.size) w8 g 3 _ := q8.mono (fun k h1 h2 => ⟨by rcases h2 with h2 | h2; exact h2.1; omega, h1⟩)
  have Z8 : Hid (Shy (fun k => B ≤ k) w w8) := hid (Z7.out.trans s8 (fun k _ e => e.1))
  have CG : Hid (Calls Try.prog 15 #[.pointer (some ⟨g, 0, none⟩), .string (str [1, 97, 0]), .int .i64 1, .int .i64 a5, .int .i64 (50 + b)] w8 fun e w' =>
      ∃ A' c', e = .returned (.agg #[.int .i64 1, .string (str [1, 97, 0]), .int .i64 1, .int .i64 1, .int .i64 lf, .slice A' 1 c', .int .i64 lf]) ∧ OwnG isT w' w8.heap.size 9 1 A' 1 c' (tvs [[120]]) ∧ Shy (fun k => B ≤ k ∧ k < w8.heap.size) w8 w') := hid (by
    have h1 := c_get q8 (n := [1, 97, 0]) (kind := 1) (rank := a5) (at_ := (50 + b)) (by decide) (by decide +kernel) hin (by decide)
    rw [RK3.out] at h1
    exact h1.mono fun e w' ⟨A, c, he, ho, _, hs⟩ => ⟨A, c, he, ho, hs⟩)
  clear q8 s8 CP l0 l1 l2 l3 l4 RK2 RK3 Q7 O7 B7
  go_wp2_with fail
  refine (a_in w8).mono ?_
  rintro e _ ⟨rfl, rfl⟩
  go_wp2_with fail
  with_reducible refine CG.out.mono ?_
  rintro e w9 ⟨A', c', rfl, o9, s9⟩
  have xb := ext_alloc w9 (.cells #[.int .i64 1, .string (str [1, 97, 0]), .int .i64 1, .int .i64 1, .int .i64 lf, .slice A' 1 c', .int .i64 lf] 37)
  have bx := Blk.new w9 37 #[.int .i64 1, .string (str [1, 97, 0]), .int .i64 1, .int .i64 1, .int .i64 lf, .slice A' 1 c', .int .i64 lf]
  obtain ⟨wx, hwx⟩ : ∃ wx, w9.alloc (.cells #[.int .i64 1, .string (str [1, 97, 0]), .int .i64 1, .int .i64 1, .int .i64 lf, .slice A' 1 c', .int .i64 lf] 37) = wx := ⟨_, rfl⟩
  obtain ⟨gx, hgx⟩ : ∃ gx, w9.heap.size = gx := ⟨_, rfl⟩
  rw [hwx] at xb bx
  rw [hgx] at bx
  have o9 := o9.ext xb
  have ZX : Hid (Shy (fun k => B ≤ k) w wx) := hid ((Z8.out.trans s9 (fun k _ e => e.1)).ext xb)
  have HWX := hid hwx
  have HGX := hid hgx
  obtain ⟨bd, od, rfl, hbd, hcd⟩ := tvs_at o9.rd (k := 0) (by decide)
  simp at hcd
  have l0 := bx.cell 0
  have l5 := bx.cell 5
  simp at l0 l5
  clear bx hwx hgx xb s9 CG o9
  go_upto_region 15 with (fail)
  rw [HWX.out, HGX.out]
  go_wp2_with fail
  go_ret
  exact ⟨rfl, ZX.out.below (by have := HB.out; omega) (fun k hk e => by omega)⟩
set_option maxHeartbeats 4000000 in
set_option maxRecDepth 100000 in
theorem ranks_c0 (a0 a1 a2 a3 a4 a5 : Int) (w : World) (h0 : -9223372036854775808 ≤ a0 ∧ a0 ≤ 9223372036854775807) (h1 : -9223372036854775808 ≤ a1 ∧ a1 ≤ 9223372036854775807) (h2 : -9223372036854775808 ≤ a2 ∧ a2 ≤ 9223372036854775807) (h3 : -9223372036854775808 ≤ a3 ∧ a3 ≤ 9223372036854775807) (h4 : -9223372036854775808 ≤ a4 ∧ a4 ≤ 9223372036854775807)
    {F G T O b : Int} (eF : wrap64 (1 + pick a0 3) = F ∧ IntKind.i64.wrap (1 + pick a0 3) = F ∧ 1 ≤ F ∧ F ≤ 3) (eG : wrap64 (1 + pick a1 3) = G ∧ IntKind.i64.wrap (1 + pick a1 3) = G ∧ 1 ≤ G ∧ G ≤ 3) (eT : wrap64 (1 + pick a2 1000) = T ∧ IntKind.i64.wrap (1 + pick a2 1000) = T ∧ 1 ≤ T ∧ T ≤ 1000) (eO : wrap64 (1 + pick a3 1000) = O ∧ IntKind.i64.wrap (1 + pick a3 1000) = O ∧ 1 ≤ O ∧ O ≤ 1000) (eb : pick a4 1001 = b ∧ 0 ≤ b ∧ b ≤ 1000)
    (hw : ¬ T ≤ b) (hv : ¬ F ≤ G) (hr : ¬ a5 ≤ F) :
    Calls Try.prog 4 #[.int .i64 a0, .int .i64 a1, .int .i64 a2, .int .i64 a3, .int .i64 a4, .int .i64 a5] w fun e w' => e = .returned (.bool true) ∧ Below w.heap.size w w' := by
  obtain ⟨B, hB⟩ : ∃ B, w.heap.size = B := ⟨_, rfl⟩
  rw [hB]
  have HB := hid hB
  have AW := awake_yes w
  rw [hB] at AW
  have AW := hid AW
  have P0 := hid (fun W => pick_any a0 3 W h0 (by decide))
  have P1 := hid (fun W => pick_any a1 3 W h1 (by decide))
  have P2 := hid (fun W => pick_any a2 1000 W h2 (by decide))
  have P3 := hid (fun W => pick_any a3 1000 W h3 (by decide))
  have P4 := hid (fun W => pick_any a4 1001 W h4 (by decide))
  obtain ⟨eF1, eF2, rF⟩ := eF
  obtain ⟨eG1, eG2, rG⟩ := eG
  obtain ⟨eT1, eT2, rT⟩ := eT
  obtain ⟨eO1, eO2, rO⟩ := eO
  obtain ⟨eb1, rb⟩ := eb
  have dT : decide (T ≤ b) = false := decide_eq_false hw
  have dF : decide (F ≤ G) = false := decide_eq_false hv
  have RK2 := rk2_no T F O G b [120] [121] rb.1 hw hv rF.2
  have RK3 := rk3_no T F (50 + T) (50 + b) a5 [120] (by omega) hr
  have hin : inTime (50 + b) := by unfold inTime; omega
  obtain ⟨lf, hlf⟩ : ∃ x, 50 + T - (50 + b) = x := ⟨_, rfl⟩
  have RK2 := hid RK2
  have RK3 := hid RK3
  clear hB h0 h1 h2 h3 h4 hlf
  go_enter Try.func4, Try.ntmps4
  go_wp2_with fail
  refine AW.out.mono ?_
  rintro e w0 ⟨rfl, x0⟩
  have Z0 : Hid (Shy (fun k => B ≤ k) w w0) := hid (Shy.of_ext (by have := HB.out; subst this; exact x0))
  have hz0 : B ≤ w0.heap.size := by have h1 := HB.out; have h2 := x0.size; omega
  clear x0 AW
  go_wp2_with fail
  refine (P0.out _).mono ?_
  rintro e _ ⟨rfl, rfl⟩
  go_wp2_with fail
  refine (P1.out _).mono ?_
  rintro e _ ⟨rfl, rfl⟩
  go_wp2_with fail
  refine (P2.out _).mono ?_
  rintro e _ ⟨rfl, rfl⟩
  go_wp2_with fail
  refine (P3.out _).mono ?_
  rintro e _ ⟨rfl, rfl⟩
  go_wp2_with fail
  refine (P4.out _).mono ?_
  rintro e _ ⟨rfl, rfl⟩
  have C0 := c_new 3 w0 (by decide)
  simp only [pt] at C0
  have C0 := hid C0
  go_wp2_with fail
  refine C0.out.mono ?_
  rintro e w1 ⟨g, rfl, q1, x1⟩
  have Q1 : Hid (Qc (fun k => B ≤ k) w1 g 3 ⟨0, []⟩) := hid (q1.mono (fun k _ e => by omega))
  have Z1 : Hid (Shy (fun k => B ≤ k) w w1) := hid (Z0.out.ext x1)
  have hz1 : B ≤ w1.heap.size := by have h2 := x1.size; omega
  clear q1 x1 C0
  clear P0 P1 P2 P3 P4
  go_wp2_with fail
  refine (set_in T w1).mono ?_
  rintro e w2 ⟨A, c, rfl, o2, x2⟩
  have q2 := (Q1.out.mono (V := fun k => B ≤ k ∧ k < w1.heap.size) (fun k h1 h2 => ⟨h2, h1⟩)).ext x2
  have CP := one_put q2 (nm := [1, 97, 0]) (ttl := T) (d := [120]) o2 (fun k e => e.2) (by decide +kernel) (by decide) (by omega) (by decide) (rank := F) (at_ := 50) rF.1 rF.2 (by decide)
  rw [rk1 T F [120]] at CP
  have CP := hid CP
  have hz2 : B ≤ w2.heap.size := by have h2 := x2.size; omega
  have Z2 : Hid (Shy (fun k => B ≤ k) w w2) := hid (Z1.out.ext x2)
  clear q2 o2 x2
  go_wp2_with fail
  with_reducible refine CP.out.mono ?_
  rintro e w3 ⟨rfl, q3, s3⟩
  have hz3 : B ≤ w3.heap.size := by have h2 := s3.size; omega
  have q3 : Qc (fun k => B ≤ k ∧ k < w3.heap.size) w3 g 3 _ := q3.mono (fun k h1 h2 => ⟨by rcases h2 with h2 | h2; exact h2.1; omega, h1⟩)
  have Q3 := hid q3
  have Z3 : Hid (Shy (fun k => B ≤ k) w w3) := hid (Z2.out.trans s3 (fun k _ e => e.1))
  clear q3 s3 CP
  go_wp2_with fail
  refine (set_in O w3).mono ?_
  rintro e w4 ⟨A1, c1, rfl, o4, x4⟩
  have xb := ext_alloc w4 (.cells #[.string (str [1, 97, 0]), .int .i64 1, .int .i64 1, .int .i64 O, .slice A1 1 c1] 30)
  have bs := Blk.new w4 30 #[.string (str [1, 97, 0]), .int .i64 1, .int .i64 1, .int .i64 O, .slice A1 1 c1]
  obtain ⟨w5, hw5⟩ : ∃ w5, w4.alloc (.cells #[.string (str [1, 97, 0]), .int .i64 1, .int .i64 1, .int .i64 O, .slice A1 1 c1] 30) = w5 := ⟨_, rfl⟩
  obtain ⟨gs, hgs⟩ : ∃ gs, w4.heap.size = gs := ⟨_, rfl⟩
  rw [hw5] at xb bs
  rw [hgs] at bs
  have xy := ext_alloc w5 (.cells #[.string (str [121])] 9)
  have oy : OwnG isT (w5.alloc (.cells #[.string (str [121])] 9)) w5.heap.size 9 1 (some ⟨w5.heap.size, 0, none⟩) 1 1 (tvs [[121]]) := OwnG.new (ok := isT) (base := w5.heap.size) (size := 1) (e := 9) w5 [.string (str [121])] 1 1 (Nat.le_refl _) rfl (Nat.le_refl _) (by simp [maxLen]) (by intro u hu; rw [List.mem_singleton] at hu; exact ⟨_, hu⟩)
  have bs2 := bs.ext xy
  obtain ⟨w6, hw6⟩ : ∃ w6, w5.alloc (.cells #[.string (str [121])] 9) = w6 := ⟨_, rfl⟩
  obtain ⟨gd, hgd⟩ : ∃ gd, w5.heap.size = gd := ⟨_, rfl⟩
  rw [hw6] at xy oy bs2
  rw [hgd] at oy
  have hw6' : w5.alloc (.cells #[.string ⟨#[121]⟩] 9) = w6 := hw6
  have hgs3 : w3.heap.size ≤ gs ∧ gs < gd := ⟨by have h2 := x4.size; omega, by have := bs.lt; omega⟩
  have r0 := bs2.cell
  have rf := bs2.frozen
  have b7 := bs2.set_ 4 (.slice (some ⟨gd, 0, none⟩) 1 1)
  have s7 := set_shy gs 4 (.slice (some ⟨gd, 0, none⟩) 1 1) w6
  obtain ⟨w7, hw7⟩ : ∃ w7, w6.setCell ⟨gs, 4, none⟩ (.slice (some ⟨gd, 0, none⟩) 1 1) = w7 := ⟨_, rfl⟩
  rw [hw7] at b7 s7
  have X6 := ext_trans x4 (ext_trans xb xy)
  have Q7 := hid ((Q3.out.ext X6).shy s7 (fun k h1 h2 e => by omega))
  have O7 := hid (s7.ownG oy (fun k hk e => by simp at hk; omega))
  have B7 : Hid (Blk w7 gs 30 #[.string (str [1, 97, 0]), .int .i64 1, .int .i64 1, .int .i64 O, .slice (some ⟨gd, 0, none⟩) 1 1]) := hid (by simpa using b7)
  have Z7 : Hid (Shy (fun k => B ≤ k) w w7) := hid ((Z3.out.ext X6).trans s7 (fun k _ e => by omega))
  have hz7 : B ≤ w7.heap.size := by have h2 := X6.size; have h3 := s7.size; omega
  clear xb xy bs bs2 oy b7 s7 X6 x4 o4 hw6 Q3 Z3 Q1
  simp at r0
  go_upto_region 10 with (fail)
  clear r0 rf hw5 hgs hgd hw6' hw7
  have l0 := B7.out.cell 0
  have l1 := B7.out.cell 1
  have l2 := B7.out.cell 2
  have l3 := B7.out.cell 3
  have l4 := B7.out.cell 4
  simp at l0 l1 l2 l3 l4
  have CP := one_put Q7.out (nm := [1, 97, 0]) (ttl := O) (d := [121]) O7.out (fun k e => by omega) (by decide +kernel) (by decide) (by omega) (by decide) (rank := G) (at_ := (50 + b)) rG.1 rG.2 hin
  rw [RK2.out] at CP
  have CP := hid CP
  go_wp2_with fail
  with_reducible refine CP.out.mono ?_
  rintro e w8 ⟨rfl, q8, s8⟩
  have hz8 : B ≤ w8.heap.size := by have h2 := s8.size; omega
  have q8 : Qc (fun k => B ≤ k ∧ k < w8.heap.size) w8 g 3 _ := q8.mono (fun k h1 h2 => ⟨by rcases h2 with h2 | h2; exact h2.1; omega, h1⟩)
  have Z8 : Hid (Shy (fun k => B ≤ k) w w8) := hid (Z7.out.trans s8 (fun k _ e => e.1))
  have CG : Hid (Calls Try.prog 15 #[.pointer (some ⟨g, 0, none⟩), .string (str [1, 97, 0]), .int .i64 1, .int .i64 a5, .int .i64 (50 + b)] w8 fun e w' =>
      ∃ A' c', e = .returned (.agg #[.int .i64 0, .string (str []), .int .i64 0, .int .i64 0, .int .i64 0, .slice A' 0 c', .int .i64 0]) ∧ OwnG isT w' w8.heap.size 9 1 A' 0 c' (tvs []) ∧ Shy (fun k => B ≤ k ∧ k < w8.heap.size) w8 w') := hid (by
    have h1 := c_get q8 (n := [1, 97, 0]) (kind := 1) (rank := a5) (at_ := (50 + b)) (by decide) (by decide +kernel) hin (by decide)
    rw [RK3.out] at h1
    exact h1.mono fun e w' ⟨A, c, he, ho, _, hs⟩ => ⟨A, c, he, ho, hs⟩)
  clear q8 s8 CP l0 l1 l2 l3 l4 RK2 RK3 Q7 O7 B7
  go_wp2_with fail
  refine (a_in w8).mono ?_
  rintro e _ ⟨rfl, rfl⟩
  go_wp2_with fail
  with_reducible refine CG.out.mono ?_
  rintro e w9 ⟨A', c', rfl, o9, s9⟩
  have xb := ext_alloc w9 (.cells #[.int .i64 0, .string (str []), .int .i64 0, .int .i64 0, .int .i64 0, .slice A' 0 c', .int .i64 0] 37)
  have bx := Blk.new w9 37 #[.int .i64 0, .string (str []), .int .i64 0, .int .i64 0, .int .i64 0, .slice A' 0 c', .int .i64 0]
  obtain ⟨wx, hwx⟩ : ∃ wx, w9.alloc (.cells #[.int .i64 0, .string (str []), .int .i64 0, .int .i64 0, .int .i64 0, .slice A' 0 c', .int .i64 0] 37) = wx := ⟨_, rfl⟩
  obtain ⟨gx, hgx⟩ : ∃ gx, w9.heap.size = gx := ⟨_, rfl⟩
  rw [hwx] at xb bx
  rw [hgx] at bx
  have o9 := o9.ext xb
  have ZX : Hid (Shy (fun k => B ≤ k) w wx) := hid ((Z8.out.trans s9 (fun k _ e => e.1)).ext xb)
  have HWX := hid hwx
  have HGX := hid hgx
  have l0 := bx.cell 0
  have l5 := bx.cell 5
  simp at l0 l5
  clear bx hwx hgx xb s9 CG o9
  go_upto_region 15 with (fail)
  rw [HWX.out, HGX.out]
  go_wp2_with fail
  go_ret
  exact ⟨rfl, ZX.out.below (by have := HB.out; omega) (fun k hk e => by omega)⟩
theorem ranks_walk (a0 a1 a2 a3 a4 a5 : Int) (w : World) (h0 : -9223372036854775808 ≤ a0 ∧ a0 ≤ 9223372036854775807) (h1 : -9223372036854775808 ≤ a1 ∧ a1 ≤ 9223372036854775807) (h2 : -9223372036854775808 ≤ a2 ∧ a2 ≤ 9223372036854775807) (h3 : -9223372036854775808 ≤ a3 ∧ a3 ≤ 9223372036854775807) (h4 : -9223372036854775808 ≤ a4 ∧ a4 ≤ 9223372036854775807) (h5 : -9223372036854775808 ≤ a5 ∧ a5 ≤ 9223372036854775807) :
    Calls Try.prog 4 #[.int .i64 a0, .int .i64 a1, .int .i64 a2, .int .i64 a3, .int .i64 a4, .int .i64 a5] w fun e w' => e = .returned (.bool true) ∧ Below w.heap.size w w' := by
  obtain ⟨F, eF⟩ := pk_one a0 3 (by decide)
  obtain ⟨G, eG⟩ := pk_one a1 3 (by decide)
  obtain ⟨T, eT⟩ := pk_one a2 1000 (by decide)
  obtain ⟨O, eO⟩ := pk_one a3 1000 (by decide)
  obtain ⟨b, eb⟩ : ∃ b, pick a4 1001 = b ∧ 0 ≤ b ∧ b ≤ 1000 := ⟨_, rfl, by have := pick_range a4 1001 (by decide); omega⟩
  by_cases hw : T ≤ b
  · by_cases hr : a5 ≤ G
    · exact ranks_a1 a0 a1 a2 a3 a4 a5 w h0 h1 h2 h3 h4 eF eG eT eO eb hw hr
    · exact ranks_a0 a0 a1 a2 a3 a4 a5 w h0 h1 h2 h3 h4 eF eG eT eO eb hw hr
  · by_cases hv : F ≤ G
    · by_cases hr : a5 ≤ G
      · exact ranks_b1 a0 a1 a2 a3 a4 a5 w h0 h1 h2 h3 h4 eF eG eT eO eb hw hv hr
      · exact ranks_b0 a0 a1 a2 a3 a4 a5 w h0 h1 h2 h3 h4 eF eG eT eO eb hw hv hr
    · by_cases hr : a5 ≤ F
      · exact ranks_c1 a0 a1 a2 a3 a4 a5 w h0 h1 h2 h3 h4 eF eG eT eO eb hw hv hr
      · exact ranks_c0 a0 a1 a2 a3 a4 a5 w h0 h1 h2 h3 h4 eF eG eT eO eb hw hv hr
end Go.Proofs.Ytcddfenhkljpeaa

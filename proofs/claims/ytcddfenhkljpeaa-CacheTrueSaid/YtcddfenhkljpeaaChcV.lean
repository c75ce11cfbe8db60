/- Layer 23: a run of calls on one cache, what was found kept besides; CacheKnown. (Printed by gen_chcv.py.) -/
import Derived.Test.YtcddfenhkljpeaaChcO
import Derived.Test.YtcddfenhkljpeaaChcT
namespace Go.Proofs.Ytcddfenhkljpeaa
open Go.BK Go.BK.CH Go.BK.NM Go.RowKit Go.Maps
set_option linter.unusedVariables false
set_option linter.unusedSimpArgs false
def Nx (B N : Nat) (X : List Nat) (k : Nat) : Prop := B ≤ k ∧ k < N ∧ k ∉ X
structure Ctx (w0 w : World) (B N : Nat) (X : List Nat) (g : Nat) (most : Int) (s : StC) : Prop where
  q : Qc (Nx B N X) w g most s
  z : Shy (fun k => B ≤ k) w0 w
  b : B ≤ N ∧ N ≤ w.heap.size
  x : ∀ k ∈ X, k < w.heap.size
section
variable {w0 w w' : World} {B N : Nat} {X : List Nat} {g : Nat} {most : Int} {s s' : StC}
theorem Ctx.ext (h : Ctx w0 w B N X g most s) (e : Ext w w') : Ctx w0 w' B N X g most s :=
  ⟨h.q.ext e, h.z.ext e, ⟨h.b.1, Nat.le_trans h.b.2 e.size⟩, fun k hk => Nat.lt_of_lt_of_le (h.x k hk) e.size⟩
theorem Ctx.get (h : Ctx w0 w B N X g most s) (q : Qc (Nx B N X) w' g most s') (e : Shy (Nx B N X) w w') : Ctx w0 w' B N X g most s' :=
  ⟨q, h.z.trans e (fun k _ u => u.1), ⟨h.b.1, Nat.le_trans h.b.2 e.size⟩, fun k hk => Nat.lt_of_lt_of_le (h.x k hk) e.size⟩
theorem Ctx.put (h : Ctx w0 w B N X g most s) (q : Qc (More (Nx B N X) w) w' g most s') (e : Shy (Nx B N X) w w') : Ctx w0 w' B w'.heap.size X g most s' := by
  refine ⟨q.mono (fun k hk u => ?_), h.z.trans e (fun k _ u => u.1), ⟨Nat.le_trans h.b.1 (Nat.le_trans h.b.2 e.size), Nat.le_refl _⟩, fun k hk => Nat.lt_of_lt_of_le (h.x k hk) e.size⟩
  rcases u with u | u
  · exact ⟨u.1, hk, u.2.2⟩
  · exact ⟨Nat.le_trans h.b.1 (Nat.le_trans h.b.2 u), hk, fun e => by have := h.x k e; omega⟩
theorem Ctx.keep (h : Ctx w0 w B N X g most s) {k : Nat} (h1 : N ≤ k) (h2 : k < w.heap.size) : Ctx w0 w B N (k :: X) g most s := by
  refine ⟨h.q.mono (fun j _ u => ⟨u.1, u.2.1, fun e => ?_⟩), h.z, h.b, fun j hj => ?_⟩
  · have h3 := u.2.1
    rcases List.mem_cons.1 e with e | e
    · omega
    · exact u.2.2 e
  · rcases List.mem_cons.1 hj with e | e
    · omega
    · exact h.x j e
theorem Ctx.new (h : Qc (fun k => N ≤ k) w g most s) (z : Shy (fun k => B ≤ k) w0 w) (hb : B ≤ N) (hn : N ≤ w.heap.size) : Ctx w0 w B w.heap.size [] g most s :=
  ⟨h.mono (fun k hk u => ⟨Nat.le_trans hb u, hk, by simp⟩), z, ⟨Nat.le_trans hb hn, Nat.le_refl _⟩, by simp⟩
theorem nx_blk {U : TypeId} {cs : Array Value} {k : Nat} (h : Blk w k U cs) (e : Shy (Nx B N X) w w') (hk : k ∈ X) : Blk w' k U cs := h.shy e fun u => u.2.2 hk
end
def kn1 : StC := (putS 2 ⟨0, []⟩ (oneSet [1, 97, 0] 10 [120]) 3 100).1
theorem kn1_b : (putS 2 ⟨0, []⟩ (oneSet [1, 97, 0] 10 [120]) 3 100).2 = true := by decide +kernel
def kn2 : StC := (putS 2 kn1 (oneSet [1, 97, 0] 20 [120]) 1 104).1
theorem kn2_b : (putS 2 kn1 (oneSet [1, 97, 0] 20 [120]) 1 104).2 = false := by decide +kernel
def kn3 : StC := (getS kn2 [1, 97, 0] 1 1 105).1
theorem kn3_f : (getS kn2 [1, 97, 0] 1 1 105).2 = ⟨1, ⟨[1, 97, 0], 1, 1, 5, [[120]]⟩, 5⟩ := by decide +kernel
def kn4 : StC := putNoneS 2 kn3 [1, 97, 0] 1 9 105
def kn5 : StC := (getS kn4 [1, 97, 0] 1 1 106).1
theorem kn5_f : (getS kn4 [1, 97, 0] 1 1 106).2 = ⟨2, ⟨[], 0, 0, 0, []⟩, 8⟩ := by decide +kernel
def kn6 : StC := (getS kn5 [1, 97, 0] 2 1 106).1
theorem kn6_f : (getS kn5 [1, 97, 0] 2 1 106).2 = ⟨0, ⟨[], 0, 0, 0, []⟩, 0⟩ := by decide +kernel
def kn7 : StC := putNoneS 2 kn6 [1, 97, 0] 0 9 106
def kn8 : StC := (getS kn7 [1, 97, 0] 2 1 107).1
theorem kn8_f : (getS kn7 [1, 97, 0] 2 1 107).2 = ⟨3, ⟨[], 0, 0, 0, []⟩, 8⟩ := by decide +kernel
def kn9 : StC := (putS 2 kn8 (oneSet [1, 97, 0] 10 [120]) 3 107).1
theorem kn9_b : (putS 2 kn8 (oneSet [1, 97, 0] 10 [120]) 3 107).2 = true := by decide +kernel
def kn10 : StC := (getS kn9 [1, 97, 0] 2 1 108).1
theorem kn10_f : (getS kn9 [1, 97, 0] 2 1 108).2 = ⟨0, ⟨[], 0, 0, 0, []⟩, 0⟩ := by decide +kernel
set_option maxHeartbeats 8000000 in
set_option maxRecDepth 100000 in
theorem known_walk (w : World) : Calls Try.prog 5 #[] w fun e w' => e = .returned (.bool true) ∧ Below w.heap.size w w' := by
  obtain ⟨B, hB⟩ : ∃ B, w.heap.size = B := ⟨_, rfl⟩
  rw [hB]
  have HB := hid hB
  have C0 := c_new 2 w (by decide)
  rw [hB] at C0
  simp only [pt] at C0
  have C0 := hid C0
  clear hB
  go_enter Try.func5, Try.ntmps5
  go_wp2_with fail
  refine C0.out.mono ?_
  rintro e w1 ⟨g, rfl, q1, x1⟩
  have Cw1 := hid (Ctx.new (B := B) q1 (Shy.of_ext x1) (Nat.le_refl _) (by have h1 := HB.out; have h2 := x1.size; omega))
  clear q1 x1 C0
  go_wp2_with fail
  refine (new_bad 0 w1 (by decide)).mono ?_
  rintro e _ ⟨rfl, rfl⟩
  go_wp2_with fail
  refine (set_in 10 _).mono ?_
  rintro e w2 ⟨A, c, rfl, ow2, xw2⟩
  have CX := Cw1.out.ext xw2
  have CP := one_put CX.q (nm := [1, 97, 0]) (ttl := 10) (d := [120]) ow2 (fun k e => Nat.lt_of_lt_of_le e.2.1 Cw1.out.b.2) (by decide +kernel) (by decide) (by decide) (by decide) (rank := 3) (at_ := 100) (by decide) (by decide) (by decide)
  rw [kn1_b] at CP
  have CP := hid CP
  have Cw2 := hid CX
  clear CX ow2 xw2
  go_wp2_with fail
  with_reducible refine CP.out.mono ?_
  rintro e w3 ⟨rfl, qw3, sw3⟩
  have Cw3 := hid (Cw2.out.put (s' := kn1) qw3 sw3)
  clear qw3 sw3 CP
  go_wp2_with fail
  refine (set_in 20 _).mono ?_
  rintro e w4 ⟨A, c, rfl, ow4, xw4⟩
  have CX := Cw3.out.ext xw4
  have CP := one_put CX.q (nm := [1, 97, 0]) (ttl := 20) (d := [120]) ow4 (fun k e => Nat.lt_of_lt_of_le e.2.1 Cw3.out.b.2) (by decide +kernel) (by decide) (by decide) (by decide) (rank := 1) (at_ := 104) (by decide) (by decide) (by decide)
  rw [kn2_b] at CP
  have CP := hid CP
  have Cw4 := hid CX
  clear CX ow4 xw4
  go_wp2_with fail
  with_reducible refine CP.out.mono ?_
  rintro e w5 ⟨rfl, qw5, sw5⟩
  have Cw5 := hid (Cw4.out.put (s' := kn2) qw5 sw5)
  clear qw5 sw5 CP
  go_wp2_with fail
  refine (a_in _).mono ?_
  rintro e _ ⟨rfl, rfl⟩
  have CG : Hid (Calls Try.prog 15 #[.pointer (some ⟨g, 0, none⟩), .string (str [1, 97, 0]), .int .i64 1, .int .i64 1, .int .i64 105] w5 fun e w' =>
      ∃ A c, e = .returned (.agg #[.int .i64 1, .string (str [1, 97, 0]), .int .i64 1, .int .i64 1, .int .i64 5, .slice A 1 c, .int .i64 5]) ∧ Qc (Nx B w5.heap.size []) w' g 2 kn3 ∧ Shy (Nx B w5.heap.size []) w5 w') := hid (by
    have h1 := c_get Cw5.out.q (n := [1, 97, 0]) (kind := 1) (rank := 1) (at_ := 105) (by decide) (by decide +kernel) (by decide) (by decide)
    rw [kn3_f] at h1
    exact h1.mono fun e w' ⟨A, c, he, ho, hq, hs⟩ => ⟨A, c, he, hq, hs⟩)
  go_wp2_with fail
  with_reducible refine CG.out.mono ?_
  rintro e w6 ⟨A_x, c_x, rfl, qw6, sw6⟩
  have Cw6 := hid (Cw5.out.get qw6 sw6)
  clear qw6 sw6 CG
  have xb := ext_alloc w6 (.cells #[.int .i64 1, .string (str [1, 97, 0]), .int .i64 1, .int .i64 1, .int .i64 5, .slice A_x 1 c_x, .int .i64 5] 37)
  have bb := Blk.new w6 37 #[.int .i64 1, .string (str [1, 97, 0]), .int .i64 1, .int .i64 1, .int .i64 5, .slice A_x 1 c_x, .int .i64 5]
  obtain ⟨w7, hw7⟩ : ∃ w, w6.alloc (.cells #[.int .i64 1, .string (str [1, 97, 0]), .int .i64 1, .int .i64 1, .int .i64 5, .slice A_x 1 c_x, .int .i64 5] 37) = w := ⟨_, rfl⟩
  obtain ⟨g_x, hg_x⟩ : ∃ k, w6.heap.size = k := ⟨_, rfl⟩
  rw [hw7] at xb bb
  rw [hg_x] at bb
  have Cw7 := hid ((Cw6.out.ext xb).keep (k := g_x) (by rw [← hg_x]; exact Cw6.out.b.2) bb.lt)
  have Kx_w7 := hid bb
  have HWw7 := hid hw7
  have HGx := hid hg_x
  clear xb bb hw7 hg_x
  go_upto_region 8 with (fail)
  rw [HWw7.out, HGx.out]
  go_wp2_with fail
  refine (a_in _).mono ?_
  rintro e _ ⟨rfl, rfl⟩
  have CP := c_putnone Cw7.out.q (n := [1, 97, 0]) (kind := 1) (ttl := 9) (at_ := 105) (by decide) (by decide +kernel) (by decide) (by decide) (by decide)
  simp only [pt] at CP
  have CP := hid CP
  go_wp2_with fail
  with_reducible refine CP.out.mono ?_
  rintro e w8 ⟨rfl, qw8, sw8⟩
  have Cw8 := hid (Cw7.out.put (s' := kn4) qw8 sw8)
  have Kx_w8 := hid (nx_blk Kx_w7.out sw8 (by simp))
  clear qw8 sw8 CP
  go_wp2_with fail
  refine (a_in _).mono ?_
  rintro e _ ⟨rfl, rfl⟩
  have CG : Hid (Calls Try.prog 15 #[.pointer (some ⟨g, 0, none⟩), .string (str [1, 97, 0]), .int .i64 1, .int .i64 1, .int .i64 106] w8 fun e w' =>
      ∃ A c, e = .returned (.agg #[.int .i64 2, .string (str []), .int .i64 0, .int .i64 0, .int .i64 0, .slice A 0 c, .int .i64 8]) ∧ Qc (Nx B w8.heap.size [g_x]) w' g 2 kn5 ∧ Shy (Nx B w8.heap.size [g_x]) w8 w') := hid (by
    have h1 := c_get Cw8.out.q (n := [1, 97, 0]) (kind := 1) (rank := 1) (at_ := 106) (by decide) (by decide +kernel) (by decide) (by decide)
    rw [kn5_f] at h1
    exact h1.mono fun e w' ⟨A, c, he, ho, hq, hs⟩ => ⟨A, c, he, hq, hs⟩)
  go_wp2_with fail
  with_reducible refine CG.out.mono ?_
  rintro e w9 ⟨A_y, c_y, rfl, qw9, sw9⟩
  have Cw9 := hid (Cw8.out.get qw9 sw9)
  have Kx_w9 := hid (nx_blk Kx_w8.out sw9 (by simp))
  clear qw9 sw9 CG
  have xb := ext_alloc w9 (.cells #[.int .i64 2, .string (str []), .int .i64 0, .int .i64 0, .int .i64 0, .slice A_y 0 c_y, .int .i64 8] 37)
  have bb := Blk.new w9 37 #[.int .i64 2, .string (str []), .int .i64 0, .int .i64 0, .int .i64 0, .slice A_y 0 c_y, .int .i64 8]
  obtain ⟨w10, hw10⟩ : ∃ w, w9.alloc (.cells #[.int .i64 2, .string (str []), .int .i64 0, .int .i64 0, .int .i64 0, .slice A_y 0 c_y, .int .i64 8] 37) = w := ⟨_, rfl⟩
  obtain ⟨g_y, hg_y⟩ : ∃ k, w9.heap.size = k := ⟨_, rfl⟩
  rw [hw10] at xb bb
  rw [hg_y] at bb
  have Cw10 := hid ((Cw9.out.ext xb).keep (k := g_y) (by rw [← hg_y]; exact Cw9.out.b.2) bb.lt)
  have Kx_w10 := hid (Kx_w9.out.ext xb)
  have Ky_w10 := hid bb
  have HWw10 := hid hw10
  have HGy := hid hg_y
  clear xb bb hw10 hg_y
  go_upto_region 10 with (fail)
  rw [HWw10.out, HGy.out]
  go_wp2_with fail
  refine (a_in _).mono ?_
  rintro e _ ⟨rfl, rfl⟩
  have CG : Hid (Calls Try.prog 15 #[.pointer (some ⟨g, 0, none⟩), .string (str [1, 97, 0]), .int .i64 2, .int .i64 1, .int .i64 106] w10 fun e w' =>
      ∃ A c, e = .returned (.agg #[.int .i64 0, .string (str []), .int .i64 0, .int .i64 0, .int .i64 0, .slice A 0 c, .int .i64 0]) ∧ Qc (Nx B w8.heap.size [g_y, g_x]) w' g 2 kn6 ∧ Shy (Nx B w8.heap.size [g_y, g_x]) w10 w') := hid (by
    have h1 := c_get Cw10.out.q (n := [1, 97, 0]) (kind := 2) (rank := 1) (at_ := 106) (by decide) (by decide +kernel) (by decide) (by decide)
    rw [kn6_f] at h1
    exact h1.mono fun e w' ⟨A, c, he, ho, hq, hs⟩ => ⟨A, c, he, hq, hs⟩)
  go_wp2_with fail
  with_reducible refine CG.out.mono ?_
  rintro e w11 ⟨A_z, c_z, rfl, qw11, sw11⟩
  have Cw11 := hid (Cw10.out.get qw11 sw11)
  have Kx_w11 := hid (nx_blk Kx_w10.out sw11 (by simp))
  have Ky_w11 := hid (nx_blk Ky_w10.out sw11 (by simp))
  clear qw11 sw11 CG
  have xb := ext_alloc w11 (.cells #[.int .i64 0, .string (str []), .int .i64 0, .int .i64 0, .int .i64 0, .slice A_z 0 c_z, .int .i64 0] 37)
  have bb := Blk.new w11 37 #[.int .i64 0, .string (str []), .int .i64 0, .int .i64 0, .int .i64 0, .slice A_z 0 c_z, .int .i64 0]
  obtain ⟨w12, hw12⟩ : ∃ w, w11.alloc (.cells #[.int .i64 0, .string (str []), .int .i64 0, .int .i64 0, .int .i64 0, .slice A_z 0 c_z, .int .i64 0] 37) = w := ⟨_, rfl⟩
  obtain ⟨g_z, hg_z⟩ : ∃ k, w11.heap.size = k := ⟨_, rfl⟩
  rw [hw12] at xb bb
  rw [hg_z] at bb
  have Cw12 := hid ((Cw11.out.ext xb).keep (k := g_z) (by rw [← hg_z]; exact Cw11.out.b.2) bb.lt)
  have Kx_w12 := hid (Kx_w11.out.ext xb)
  have Ky_w12 := hid (Ky_w11.out.ext xb)
  have Kz_w12 := hid bb
  have HWw12 := hid hw12
  have HGz := hid hg_z
  clear xb bb hw12 hg_z
  go_upto_region 11 with (fail)
  rw [HWw12.out, HGz.out]
  have lx6 := Kx_w12.out.cell 6
  have ly0 := Ky_w12.out.cell 0
  have ly6 := Ky_w12.out.cell 6
  have lz0 := Kz_w12.out.cell 0
  simp at lx6 ly0 ly6 lz0
  go_upto_region 12 with (fail)
  clear lx6 ly0 ly6 lz0
  go_wp2_with fail
  refine (a_in _).mono ?_
  rintro e _ ⟨rfl, rfl⟩
  have CP := c_putnone Cw12.out.q (n := [1, 97, 0]) (kind := 0) (ttl := 9) (at_ := 106) (by decide) (by decide +kernel) (by decide) (by decide) (by decide)
  simp only [pt] at CP
  have CP := hid CP
  go_wp2_with fail
  with_reducible refine CP.out.mono ?_
  rintro e w13 ⟨rfl, qw13, sw13⟩
  have Cw13 := hid (Cw12.out.put (s' := kn7) qw13 sw13)
  clear qw13 sw13 CP
  go_wp2_with fail
  refine (a_in _).mono ?_
  rintro e _ ⟨rfl, rfl⟩
  have CG : Hid (Calls Try.prog 15 #[.pointer (some ⟨g, 0, none⟩), .string (str [1, 97, 0]), .int .i64 2, .int .i64 1, .int .i64 107] w13 fun e w' =>
      ∃ A c, e = .returned (.agg #[.int .i64 3, .string (str []), .int .i64 0, .int .i64 0, .int .i64 0, .slice A 0 c, .int .i64 8]) ∧ Qc (Nx B w13.heap.size [g_z, g_y, g_x]) w' g 2 kn8 ∧ Shy (Nx B w13.heap.size [g_z, g_y, g_x]) w13 w') := hid (by
    have h1 := c_get Cw13.out.q (n := [1, 97, 0]) (kind := 2) (rank := 1) (at_ := 107) (by decide) (by decide +kernel) (by decide) (by decide)
    rw [kn8_f] at h1
    exact h1.mono fun e w' ⟨A, c, he, ho, hq, hs⟩ => ⟨A, c, he, hq, hs⟩)
  go_wp2_with fail
  with_reducible refine CG.out.mono ?_
  rintro e w14 ⟨A_u, c_u, rfl, qw14, sw14⟩
  have Cw14 := hid (Cw13.out.get qw14 sw14)
  clear qw14 sw14 CG
  have xb := ext_alloc w14 (.cells #[.int .i64 3, .string (str []), .int .i64 0, .int .i64 0, .int .i64 0, .slice A_u 0 c_u, .int .i64 8] 37)
  have bb := Blk.new w14 37 #[.int .i64 3, .string (str []), .int .i64 0, .int .i64 0, .int .i64 0, .slice A_u 0 c_u, .int .i64 8]
  obtain ⟨w15, hw15⟩ : ∃ w, w14.alloc (.cells #[.int .i64 3, .string (str []), .int .i64 0, .int .i64 0, .int .i64 0, .slice A_u 0 c_u, .int .i64 8] 37) = w := ⟨_, rfl⟩
  obtain ⟨g_u, hg_u⟩ : ∃ k, w14.heap.size = k := ⟨_, rfl⟩
  rw [hw15] at xb bb
  rw [hg_u] at bb
  have Cw15 := hid ((Cw14.out.ext xb).keep (k := g_u) (by rw [← hg_u]; exact Cw14.out.b.2) bb.lt)
  have Ku_w15 := hid bb
  have HWw15 := hid hw15
  have HGu := hid hg_u
  clear xb bb hw15 hg_u
  go_upto_region 14 with (fail)
  rw [HWw15.out, HGu.out]
  have lu0 := Ku_w15.out.cell 0
  have lu6 := Ku_w15.out.cell 6
  simp at lu0 lu6
  have CL := c_len Cw15.out.q
  rw [show kn8.L.length = 1 from by decide +kernel] at CL
  simp only [pt] at CL
  have CL := hid CL
  go_wp2_with fail
  refine CL.out.mono ?_
  rintro e _ ⟨rfl, rfl⟩
  clear lu0 lu6 CL
  go_wp2_with fail
  refine (set_in 10 _).mono ?_
  rintro e w16 ⟨A, c, rfl, ow16, xw16⟩
  have CX := Cw15.out.ext xw16
  have CP := one_put CX.q (nm := [1, 97, 0]) (ttl := 10) (d := [120]) ow16 (fun k e => Nat.lt_of_lt_of_le e.2.1 Cw15.out.b.2) (by decide +kernel) (by decide) (by decide) (by decide) (rank := 3) (at_ := 107) (by decide) (by decide) (by decide)
  rw [kn9_b] at CP
  have CP := hid CP
  have Cw16 := hid CX
  clear CX ow16 xw16
  go_wp2_with fail
  with_reducible refine CP.out.mono ?_
  rintro e w17 ⟨rfl, qw17, sw17⟩
  have Cw17 := hid (Cw16.out.put (s' := kn9) qw17 sw17)
  clear qw17 sw17 CP
  go_wp2_with fail
  refine (a_in _).mono ?_
  rintro e _ ⟨rfl, rfl⟩
  have CG : Hid (Calls Try.prog 15 #[.pointer (some ⟨g, 0, none⟩), .string (str [1, 97, 0]), .int .i64 2, .int .i64 1, .int .i64 108] w17 fun e w' =>
      ∃ A c, e = .returned (.agg #[.int .i64 0, .string (str []), .int .i64 0, .int .i64 0, .int .i64 0, .slice A 0 c, .int .i64 0]) ∧ Qc (Nx B w17.heap.size [g_u, g_z, g_y, g_x]) w' g 2 kn10 ∧ Shy (Nx B w17.heap.size [g_u, g_z, g_y, g_x]) w17 w') := hid (by
    have h1 := c_get Cw17.out.q (n := [1, 97, 0]) (kind := 2) (rank := 1) (at_ := 108) (by decide) (by decide +kernel) (by decide) (by decide)
    rw [kn10_f] at h1
    exact h1.mono fun e w' ⟨A, c, he, ho, hq, hs⟩ => ⟨A, c, he, hq, hs⟩)
  go_wp2_with fail
  with_reducible refine CG.out.mono ?_
  rintro e w18 ⟨A_v, c_v, rfl, qw18, sw18⟩
  have Cw18 := hid (Cw17.out.get qw18 sw18)
  clear qw18 sw18 CG
  have xb := ext_alloc w18 (.cells #[.int .i64 0, .string (str []), .int .i64 0, .int .i64 0, .int .i64 0, .slice A_v 0 c_v, .int .i64 0] 37)
  have bb := Blk.new w18 37 #[.int .i64 0, .string (str []), .int .i64 0, .int .i64 0, .int .i64 0, .slice A_v 0 c_v, .int .i64 0]
  obtain ⟨w19, hw19⟩ : ∃ w, w18.alloc (.cells #[.int .i64 0, .string (str []), .int .i64 0, .int .i64 0, .int .i64 0, .slice A_v 0 c_v, .int .i64 0] 37) = w := ⟨_, rfl⟩
  obtain ⟨g_v, hg_v⟩ : ∃ k, w18.heap.size = k := ⟨_, rfl⟩
  rw [hw19] at xb bb
  rw [hg_v] at bb
  have Cw19 := hid ((Cw18.out.ext xb).keep (k := g_v) (by rw [← hg_v]; exact Cw18.out.b.2) bb.lt)
  have Kv_w19 := hid bb
  have HWw19 := hid hw19
  have HGv := hid hg_v
  clear xb bb hw19 hg_v
  go_upto_region 17 with (fail)
  rw [HWw19.out, HGv.out]
  go_wp2_with fail
  refine (awake_yes _).mono ?_
  rintro e wz ⟨rfl, xz⟩
  have Z := (Cw19.out.ext xz).z
  have kv := (Kv_w19.out.ext xz).cell 0
  simp at kv
  clear xz
  go_wp2_with fail
  go_ret
  exact ⟨rfl, Z.below (by have := HB.out; omega) (fun k hk e => by omega)⟩
end Go.Proofs.Ytcddfenhkljpeaa

import Derived.Test.YtcddfenhkljpeaaChcJ
import Derived.Test.YtcddfenhkljpeaaChcN
/- Layer 23: awake. (Printed by gen_chco.py.) -/
namespace Go.Proofs.Ytcddfenhkljpeaa
open Go.BK Go.BK.CH Go.BK.NM Go.RowKit Go.Maps
set_option linter.unusedVariables false
set_option linter.unusedSimpArgs false
/-- A set of one datum; put, and got. -/
def oneSet (nm : List UInt8) (ttl : Int) (d : List UInt8) : SetS := ⟨nm, 1, 1, ttl, [d]⟩
theorem oneSet_ok {nm : List UInt8} {ttl : Int} {d : List UInt8} (hc : checkS nm = 0) (hn : nm.length ≤ 2000) (ht : 0 < ttl ∧ ttl < 2147483648) (hd : d.length ≤ 1000) : SetOk (oneSet nm ttl d) :=
  ⟨hc, Nat.le_trans hn (by decide), ⟨by show (0 : Int) ≤ 1; decide, by show (1 : Int) ≤ 65535; decide⟩, ⟨by show (0 : Int) ≤ 1; decide, by show (1 : Int) ≤ 65535; decide⟩, ⟨Int.le_of_lt ht.1, ht.2⟩,
    ⟨by show 1 ≤ ([d] : List (List UInt8)).length; simp, by show ([d] : List (List UInt8)).length ≤ 64; simp⟩, by show ([d] : List (List UInt8)).Nodup; simp, by show ∀ x ∈ ([d] : List (List UInt8)), x.length ≤ 65535; intro x hx; rw [List.mem_singleton] at hx; subst hx; omega⟩
section
variable {U V : Nat → Prop} {w w' : World} {g : Nat} {most : Int} {s : StC}
theorem one_put (h : Qc U w g most s) {nm : List UInt8} {ttl : Int} {d : List UInt8} {A : Option Addr} {c base : Nat} (hA : OwnG isT w base 9 1 A 1 c (tvs [d])) (hU : ∀ k, U k → k < base) (hc : checkS nm = 0) (hn : nm.length ≤ 2000) (ht : 0 < ttl ∧ ttl < 2147483648) (hd : d.length ≤ 1000) {rank at_ : Int} (hr1 : 1 ≤ rank) (hr3 : rank ≤ 3) (hat : inTime at_) :
    Calls Try.prog 14 #[.pointer (some ⟨g, 0, none⟩), .agg #[.string (str nm), .int .i64 1, .int .i64 1, .int .i64 ttl, .slice A 1 c], .int .i64 rank, .int .i64 at_] w fun e w' =>
      e = .returned (.tuple #[.bool (putS most s (oneSet nm ttl d) rank at_).2, .int .i64 0]) ∧ Qc (More U w) w' g most (putS most s (oneSet nm ttl d) rank at_).1 ∧ Shy U w w' :=
  c_put h (x := oneSet nm ttl d) (A := A) (c := c) hA.rd (oneSet_ok hc hn ht hd) rfl (by show (1 : Int) ≠ 0; decide) ht.1 hr1 hr3 hat (fun k hk e => by have h1 := (hA.lt k hk).1; have h2 := hU k e; omega)
end
def awL1 : StC := (putS 2 ⟨0, []⟩ (oneSet [1, 97, 0] 10 [120]) 3 100).1
theorem awL1_b : (putS 2 ⟨0, []⟩ (oneSet [1, 97, 0] 10 [120]) 3 100).2 = true := by decide +kernel
def awL2 : StC := (getS awL1 [1, 65, 0] 1 3 104).1
theorem awL2_f : (getS awL1 [1, 65, 0] 1 3 104).2 = ⟨1, ⟨[1, 97, 0], 1, 1, 6, [[120]]⟩, 6⟩ := by decide +kernel
theorem awL3_f : (getS awL2 [1, 97, 0] 1 3 110).2 = ⟨0, ⟨[], 0, 0, 0, []⟩, 0⟩ := by decide +kernel
set_option maxHeartbeats 4000000 in
set_option maxRecDepth 100000 in
theorem awake_yes (w : World) : Calls Try.prog 10 #[] w fun e w' => e = .returned (.bool true) ∧ Below w.heap.size w w' := by
  obtain ⟨B, hB⟩ : ∃ B, w.heap.size = B := ⟨_, rfl⟩
  rw [hB]
  have HB := hid hB
  have C0 := c_new 2 w (by decide)
  rw [hB] at C0
  simp only [pt] at C0
  have C0 := hid C0
  clear hB
  go_enter Try.func10, Try.ntmps10
  go_wp2_with fail
  refine C0.out.mono ?_
  rintro e w1 ⟨g, rfl, q1, x1⟩
  have Q1 := hid q1
  have Z1 : Hid (Shy (fun k => B ≤ k) w w1) := hid (Shy.of_ext x1)
  have hz1 : B ≤ w1.heap.size := by have h1 := HB.out; have h2 := x1.size; omega
  clear q1 x1 C0
  go_wp2_with fail
  refine (set_in 10 w1).mono ?_
  rintro e w2 ⟨A, c, rfl, o2, x2⟩
  have q2 := (Q1.out.mono (V := fun k => B ≤ k ∧ k < w1.heap.size) (fun k h1 h2 => ⟨h2, h1⟩)).ext x2
  have CP := one_put q2 (nm := [1, 97, 0]) (ttl := 10) (d := [120]) o2 (fun k e => e.2) (by decide +kernel) (by decide) (by decide) (by decide) (rank := 3) (at_ := 100) (by decide) (by decide) (by decide)
  rw [awL1_b] at CP
  have CP := hid CP
  have hz2 : B ≤ w2.heap.size := by have h2 := x2.size; omega
  have Z2 : Hid (Shy (fun k => B ≤ k) w w2) := hid (Z1.out.ext x2)
  clear q2 o2 x2
  go_wp2_with fail
  refine CP.out.mono ?_
  rintro e w3 ⟨rfl, q3, s3⟩
  have hz3 : B ≤ w3.heap.size := by have h2 := s3.size; omega
  have q3 : Qc (fun k => B ≤ k ∧ k < w3.heap.size) w3 g 2 awL1 := q3.mono (fun k h1 h2 => ⟨by rcases h2 with h2 | h2; exact h2.1; omega, h1⟩)
  have Q3 := hid q3
  have Z3 : Hid (Shy (fun k => B ≤ k) w w3) := hid (Z2.out.trans s3 (fun k _ e => e.1))
  clear q3 s3 CP
  have CG : Hid (Calls Try.prog 15 #[.pointer (some ⟨g, 0, none⟩), .string (str [1, 65, 0]), .int .i64 1, .int .i64 3, .int .i64 104] w3 fun e w' =>
      ∃ A c, e = .returned (.agg #[.int .i64 1, .string (str [1, 97, 0]), .int .i64 1, .int .i64 1, .int .i64 6, .slice A 1 c, .int .i64 6]) ∧ OwnG isT w' w3.heap.size 9 1 A 1 c (tvs [[120]]) ∧ Qc (fun k => B ≤ k ∧ k < w3.heap.size) w' g 2 awL2 ∧ Shy (fun k => B ≤ k ∧ k < w3.heap.size) w3 w') := hid (by
    have h1 := c_get Q3.out (n := [1, 65, 0]) (kind := 1) (rank := 3) (at_ := 104) (by decide) (by decide +kernel) (by decide) (by decide)
    rw [awL2_f] at h1
    exact h1)
  go_wp2_with fail
  refine (big_in w3).mono ?_
  rintro e _ ⟨rfl, rfl⟩
  go_wp2_with fail
  refine CG.out.mono ?_
  rintro e w4 ⟨A', c', rfl, o4, q4, s4⟩
  have xb := ext_alloc w4 (.cells #[.int .i64 1, .string (str [1, 97, 0]), .int .i64 1, .int .i64 1, .int .i64 6, .slice A' 1 c', .int .i64 6] 37)
  have bx := Blk.new w4 37 #[.int .i64 1, .string (str [1, 97, 0]), .int .i64 1, .int .i64 1, .int .i64 6, .slice A' 1 c', .int .i64 6]
  obtain ⟨w5, hw5⟩ : ∃ w5, w4.alloc (.cells #[.int .i64 1, .string (str [1, 97, 0]), .int .i64 1, .int .i64 1, .int .i64 6, .slice A' 1 c', .int .i64 6] 37) = w5 := ⟨_, rfl⟩
  obtain ⟨gx, hgx⟩ : ∃ gx, w4.heap.size = gx := ⟨_, rfl⟩
  rw [hw5] at xb bx
  rw [hgx] at bx
  have hgx3 : w3.heap.size ≤ gx := by have h2 := s4.size; omega
  have hz5 : B ≤ w5.heap.size := by have h2 := s4.size; have h3 := xb.size; omega
  have Q5 := hid (q4.ext xb)
  have O5 := hid (o4.ext xb)
  have BX := hid bx
  have Z5 : Hid (Shy (fun k => B ≤ k) w w5) := hid ((Z3.out.trans s4 (fun k _ e => e.1)).ext xb)
  have HW5 := hid hw5
  have HGX := hid hgx
  clear xb bx o4 q4 s4 hw5 hgx CG
  go_upto_region 6 with (fail)
  rw [HW5.out, HGX.out]
  have CG : Hid (Calls Try.prog 15 #[.pointer (some ⟨g, 0, none⟩), .string (str [1, 97, 0]), .int .i64 1, .int .i64 3, .int .i64 110] w5 fun e w' =>
      ∃ A c, e = .returned (.agg #[.int .i64 0, .string (str []), .int .i64 0, .int .i64 0, .int .i64 0, .slice A 0 c, .int .i64 0]) ∧ Shy (fun k => B ≤ k ∧ k < w3.heap.size) w5 w') := hid (by
    have h1 := c_get Q5.out (n := [1, 97, 0]) (kind := 1) (rank := 3) (at_ := 110) (by decide) (by decide +kernel) (by decide) (by decide)
    rw [awL3_f] at h1
    exact h1.mono fun e w' ⟨A, c, he, _, _, hs⟩ => ⟨A, c, he, hs⟩)
  go_wp2_with fail
  refine (a_in w5).mono ?_
  rintro e _ ⟨rfl, rfl⟩
  go_wp2_with fail
  refine CG.out.mono ?_
  rintro e w6 ⟨A2, c2, rfl, s6⟩
  have xb := ext_alloc w6 (.cells #[.int .i64 0, .string (str []), .int .i64 0, .int .i64 0, .int .i64 0, .slice A2 0 c2, .int .i64 0] 37)
  have by_ := Blk.new w6 37 #[.int .i64 0, .string (str []), .int .i64 0, .int .i64 0, .int .i64 0, .slice A2 0 c2, .int .i64 0]
  obtain ⟨w7, hw7⟩ : ∃ w7, w6.alloc (.cells #[.int .i64 0, .string (str []), .int .i64 0, .int .i64 0, .int .i64 0, .slice A2 0 c2, .int .i64 0] 37) = w7 := ⟨_, rfl⟩
  obtain ⟨gy, hgy⟩ : ∃ gy, w6.heap.size = gy := ⟨_, rfl⟩
  rw [hw7] at xb by_
  rw [hgy] at by_
  have O7 := hid ((s6.ownG O5.out (fun k hk e => by have h1 := (O5.out.lt k hk).1; omega)).ext xb)
  have BX7 := hid ((BX.out.shy s6 (fun e => by omega)).ext xb)
  have BY := hid by_
  have Z7 : Hid (Shy (fun k => B ≤ k) w w7) := hid ((Z5.out.trans s6 (fun k _ e => e.1)).ext xb)
  have HW7 := hid hw7
  have HGY := hid hgy
  clear xb by_ s6 hw7 hgy CG
  go_upto_region 7 with (fail)
  rw [HW7.out, HGY.out]
  have KEEP : Hid (∀ W, Ext w7 W → W.cell? ⟨gx, 0, none⟩ = some (.int .i64 1) ∧ W.cell? ⟨gx, 1, none⟩ = some (.string (str [1, 97, 0])) ∧ W.cell? ⟨gx, 2, none⟩ = some (.int .i64 1) ∧ W.cell? ⟨gx, 3, none⟩ = some (.int .i64 1) ∧ W.cell? ⟨gx, 4, none⟩ = some (.int .i64 6) ∧ W.cell? ⟨gx, 5, none⟩ = some (.slice A' 1 c') ∧ W.cell? ⟨gx, 6, none⟩ = some (.int .i64 6) ∧ W.cell? ⟨gy, 0, none⟩ = some (.int .i64 0)) := hid (fun W x => ⟨(BX7.out.ext x).cell 0, (BX7.out.ext x).cell 1, (BX7.out.ext x).cell 2, (BX7.out.ext x).cell 3, (BX7.out.ext x).cell 4, (BX7.out.ext x).cell 5, (BX7.out.ext x).cell 6, (BY.out.ext x).cell 0⟩)
  refine wp_region_noPanic ?_
  refine region_E (S := fun W => W.cell? ⟨gx, 0, none⟩ = some (.int .i64 1) ∧ W.cell? ⟨gx, 1, none⟩ = some (.string (str [1, 97, 0])) ∧ W.cell? ⟨gx, 2, none⟩ = some (.int .i64 1) ∧ W.cell? ⟨gx, 3, none⟩ = some (.int .i64 1) ∧ W.cell? ⟨gx, 4, none⟩ = some (.int .i64 6) ∧ W.cell? ⟨gx, 5, none⟩ = some (.slice A' 1 c') ∧ W.cell? ⟨gx, 6, none⟩ = some (.int .i64 6) ∧ W.cell? ⟨gy, 0, none⟩ = some (.int .i64 0)) 26 (by kernel_rfl) (by kernel_rfl) (by kernel_rfl) ?_
  refine EG_take 0 (v := ?v1) (by simp only [lga, lgb, lgc]; rfl) (by kernel_rfl) (by kernel_rfl) (by decide) (fun _ _ _ h => h) (Or.inl ⟨by rfl, ?hy1⟩) (KEEP.out _ (ext_drew _)) ?rest1
  case hy1 => intro W hSW; (try dsimp only at hSW); obtain ⟨e0, e1, e2, e3, e4, e5, e6, f0⟩ := hSW; go_simp <;> with_reducible rfl
  try simp only [Act.put, lsa, lsb, lsc]
  refine EG_take 1 (v := ?v2) (by simp only [lga, lgb, lgc]; rfl) (by kernel_rfl) (by kernel_rfl) (by decide) (fun _ _ _ h => h) (Or.inl ⟨by rfl, ?hy2⟩) (KEEP.out _ (ext_drew _)) ?rest2
  case hy2 => intro W hSW; (try dsimp only at hSW); obtain ⟨e0, e1, e2, e3, e4, e5, e6, f0⟩ := hSW; go_simp <;> with_reducible rfl
  try simp only [Act.put, lsa, lsb, lsc]
  refine EG_take 2 (v := ?v3) (by simp only [lga, lgb, lgc]; rfl) (by kernel_rfl) (by kernel_rfl) (by decide) (fun _ _ _ h => h) (Or.inl ⟨by rfl, ?hy3⟩) (KEEP.out _ (ext_drew _)) ?rest3
  case hy3 => intro W hSW; (try dsimp only at hSW); obtain ⟨e0, e1, e2, e3, e4, e5, e6, f0⟩ := hSW; go_simp <;> with_reducible rfl
  try simp only [Act.put, lsa, lsb, lsc]
  refine EG_take 3 (v := ?v4) (by simp only [lga, lgb, lgc]; rfl) (by kernel_rfl) (by kernel_rfl) (by decide) (fun _ _ _ h => h) (Or.inl ⟨by rfl, ?hy4⟩) (KEEP.out _ (ext_drew _)) ?rest4
  case hy4 => intro W hSW; (try dsimp only at hSW); obtain ⟨e0, e1, e2, e3, e4, e5, e6, f0⟩ := hSW; go_simp <;> with_reducible rfl
  try simp only [Act.put, lsa, lsb, lsc]
  refine EG_take 4 (v := ?v5) (by simp only [lga, lgb, lgc]; rfl) (by kernel_rfl) (by kernel_rfl) (by decide) (fun _ _ _ h => h) (Or.inl ⟨by rfl, ?hy5⟩) (KEEP.out _ (ext_drew _)) ?rest5
  case hy5 => intro W hSW; (try dsimp only at hSW); obtain ⟨e0, e1, e2, e3, e4, e5, e6, f0⟩ := hSW; go_simp <;> with_reducible rfl
  try simp only [Act.put, lsa, lsb, lsc]
  refine EG_take 5 (v := ?v6) (by simp only [lga, lgb, lgc]; rfl) (by kernel_rfl) (by kernel_rfl) (by decide) (fun _ _ _ h => h) (Or.inl ⟨by rfl, ?hy6⟩) (KEEP.out _ (ext_drew _)) ?rest6
  case hy6 => intro W hSW; (try dsimp only at hSW); obtain ⟨e0, e1, e2, e3, e4, e5, e6, f0⟩ := hSW; go_simp <;> with_reducible rfl
  try simp only [Act.put, lsa, lsb, lsc]
  refine EG_take 6 (v := ?v7) (by simp only [lga, lgb, lgc]; rfl) (by kernel_rfl) (by kernel_rfl) (by decide) (fun _ _ _ h => h) (Or.inl ⟨by rfl, ?hy7⟩) (KEEP.out _ (ext_drew _)) ?rest7
  case hy7 => intro W hSW; (try dsimp only at hSW); obtain ⟨e0, e1, e2, e3, e4, e5, e6, f0⟩ := hSW; go_simp <;> with_reducible rfl
  try simp only [Act.put, lsa, lsb, lsc]
  refine EG_take 7 (v := ?v8) (by simp only [lga, lgb, lgc]; rfl) (by kernel_rfl) (by kernel_rfl) (by decide) (fun _ _ _ h => h) (Or.inl ⟨by rfl, ?hy8⟩) (KEEP.out _ (ext_drew _)) ?rest8
  case hy8 => intro W hSW; (try dsimp only at hSW); obtain ⟨e0, e1, e2, e3, e4, e5, e6, f0⟩ := hSW; go_simp <;> with_reducible rfl
  try simp only [Act.put, lsa, lsb, lsc]
  refine EG_take 8 (v := ?v9) (by simp only [lga, lgb, lgc]; rfl) (by kernel_rfl) (by kernel_rfl) (by decide) (fun _ _ _ h => h) (Or.inl ⟨by rfl, ?hy9⟩) (KEEP.out _ (ext_drew _)) ?rest9
  case hy9 => intro W hSW; (try dsimp only at hSW); obtain ⟨e0, e1, e2, e3, e4, e5, e6, f0⟩ := hSW; go_simp <;> with_reducible rfl
  try simp only [Act.put, lsa, lsb, lsc]
  refine EG_take 9 (v := ?v10) (by simp only [lga, lgb, lgc]; rfl) (by kernel_rfl) (by kernel_rfl) (by decide) (fun _ _ _ h => h) (Or.inl ⟨by rfl, ?hy10⟩) (KEEP.out _ (ext_drew _)) ?rest10
  case hy10 => intro W hSW; (try dsimp only at hSW); obtain ⟨e0, e1, e2, e3, e4, e5, e6, f0⟩ := hSW; go_simp <;> with_reducible rfl
  try simp only [Act.put, lsa, lsb, lsc]
  refine EG_take 10 (v := ?v11) (by simp only [lga, lgb, lgc]; rfl) (by kernel_rfl) (by kernel_rfl) (by decide) (fun _ _ _ h => h) (Or.inl ⟨by rfl, ?hy11⟩) (KEEP.out _ (ext_drew _)) ?rest11
  case hy11 => intro W hSW; (try dsimp only at hSW); obtain ⟨e0, e1, e2, e3, e4, e5, e6, f0⟩ := hSW; go_simp <;> with_reducible rfl
  try simp only [Act.put, lsa, lsb, lsc]
  refine EG_take 11 (v := ?v12) (by simp only [lga, lgb, lgc]; rfl) (by kernel_rfl) (by kernel_rfl) (by decide) (fun _ _ _ h => h) (Or.inl ⟨by rfl, ?hy12⟩) (KEEP.out _ (ext_drew _)) ?rest12
  case hy12 => intro W hSW; (try dsimp only at hSW); obtain ⟨e0, e1, e2, e3, e4, e5, e6, f0⟩ := hSW; go_simp <;> with_reducible rfl
  try simp only [Act.put, lsa, lsb, lsc]
  refine EG_take 12 (v := ?v13) (by simp only [lga, lgb, lgc]; rfl) (by kernel_rfl) (by kernel_rfl) (by decide) (fun _ _ _ h => h) (Or.inl ⟨by rfl, ?hy13⟩) (KEEP.out _ (ext_drew _)) ?rest13
  case hy13 => intro W hSW; (try dsimp only at hSW); obtain ⟨e0, e1, e2, e3, e4, e5, e6, f0⟩ := hSW; go_simp <;> with_reducible rfl
  try simp only [Act.put, lsa, lsb, lsc]
  refine EG_take 13 (v := ?v14) (by simp only [lga, lgb, lgc]; rfl) (by kernel_rfl) (by kernel_rfl) (by decide) (fun _ _ _ h => h) (Or.inl ⟨by rfl, ?hy14⟩) (KEEP.out _ (ext_drew _)) ?rest14
  case hy14 => intro W hSW; (try dsimp only at hSW); obtain ⟨e0, e1, e2, e3, e4, e5, e6, f0⟩ := hSW; go_simp <;> with_reducible rfl
  try simp only [Act.put, lsa, lsb, lsc]
  refine EG_take 14 (v := ?v15) (by simp only [lga, lgb, lgc]; rfl) (by kernel_rfl) (by kernel_rfl) (by decide) (fun _ _ _ h => h) (Or.inl ⟨by rfl, ?hy15⟩) (KEEP.out _ (ext_drew _)) ?rest15
  case hy15 => intro W hSW; (try dsimp only at hSW); obtain ⟨e0, e1, e2, e3, e4, e5, e6, f0⟩ := hSW; go_simp <;> with_reducible rfl
  try simp only [Act.put, lsa, lsb, lsc]
  refine EG_take 15 (v := ?v16) (by simp only [lga, lgb, lgc]; rfl) (by kernel_rfl) (by kernel_rfl) (by decide) (fun _ _ _ h => h) (Or.inl ⟨by rfl, ?hy16⟩) (KEEP.out _ (ext_drew _)) ?rest16
  case hy16 => intro W hSW; (try dsimp only at hSW); obtain ⟨e0, e1, e2, e3, e4, e5, e6, f0⟩ := hSW; go_simp <;> with_reducible rfl
  try simp only [Act.put, lsa, lsb, lsc]
  refine EG_take 16 (v := ?v17) (by simp only [lga, lgb, lgc]; rfl) (by kernel_rfl) (by kernel_rfl) (by decide) (fun _ _ _ h => h) (Or.inl ⟨by rfl, ?hy17⟩) (KEEP.out _ (ext_drew _)) ?rest17
  case hy17 => intro W hSW; (try dsimp only at hSW); obtain ⟨e0, e1, e2, e3, e4, e5, e6, f0⟩ := hSW; go_simp <;> with_reducible rfl
  try simp only [Act.put, lsa, lsb, lsc]
  refine EG_take 17 (v := ?v18) (by simp only [lga, lgb, lgc]; rfl) (by kernel_rfl) (by kernel_rfl) (by decide) (fun _ _ _ h => h) (Or.inl ⟨by rfl, ?hy18⟩) (KEEP.out _ (ext_drew _)) ?rest18
  case hy18 => intro W hSW; (try dsimp only at hSW); obtain ⟨e0, e1, e2, e3, e4, e5, e6, f0⟩ := hSW; go_simp <;> with_reducible rfl
  try simp only [Act.put, lsa, lsb, lsc]
  refine EG_one 18 (by kernel_rfl) (by simp only [lga, lgb, lgc]; rfl) (by decide) ?_
  intro K hK0
  have hK := hid hK0
  clear hK0
  go_simp
  refine (set_in 6 _).mono ?_
  rintro e w8 ⟨A8, c8, rfl, o8, x8⟩
  have X8 : Hid (Ext w7 w8) := hid (ext_trans (ext_drew _) x8)
  have CS : Hid (Calls Try.prog 28 #[.agg #[.string (str [1, 97, 0]), .int .i64 1, .int .i64 1, .int .i64 6, .slice A' 1 c'], .agg #[.string (str [1, 97, 0]), .int .i64 1, .int .i64 1, .int .i64 6, .slice A8 1 c8]] w8 fun e w' => e = .returned (.bool true) ∧ Ext w8 w') := hid (same_set (s := oneSet [1, 97, 0] 6 [120]) (O7.out.ext X8.out).rd o8.rd (by decide))
  clear o8 x8
  go_simp
  refine hK.out _ _ (KEEP.out _ X8.out) ?_
  clear hK K
  try simp only [Act.put, lsa, lsb, lsc]
  refine EG_one 19 (by kernel_rfl) (by simp only [lga, lgb, lgc]; rfl) (by decide) ?_
  intro K hK0
  have hK := hid hK0
  clear hK0
  go_simp
  refine CS.out.mono ?_
  rintro e w9 ⟨rfl, x9⟩
  have X9 : Hid (Ext w7 w9) := hid (ext_trans X8.out x9)
  clear x9 CS
  go_simp
  refine hK.out _ _ (KEEP.out _ X9.out) ?_
  clear hK K
  try simp only [Act.put, lsa, lsb, lsc]
  refine EG_take 20 (v := ?v19) (by simp only [lga, lgb, lgc]; rfl) (by kernel_rfl) (by kernel_rfl) (by decide) (fun _ _ _ h => h) (Or.inl ⟨by rfl, ?hy19⟩) (KEEP.out _ X9.out) ?rest19
  case hy19 => intro W hSW; (try dsimp only at hSW); obtain ⟨e0, e1, e2, e3, e4, e5, e6, f0⟩ := hSW; go_simp <;> with_reducible rfl
  try simp only [Act.put, lsa, lsb, lsc]
  refine EG_take 21 (v := ?v20) (by simp only [lga, lgb, lgc]; rfl) (by kernel_rfl) (by kernel_rfl) (by decide) (fun _ _ _ h => h) (Or.inl ⟨by rfl, ?hy20⟩) (KEEP.out _ X9.out) ?rest20
  case hy20 => intro W hSW; (try dsimp only at hSW); obtain ⟨e0, e1, e2, e3, e4, e5, e6, f0⟩ := hSW; go_simp <;> with_reducible rfl
  try simp only [Act.put, lsa, lsb, lsc]
  refine EG_take 22 (v := ?v21) (by simp only [lga, lgb, lgc]; rfl) (by kernel_rfl) (by kernel_rfl) (by decide) (fun _ _ _ h => h) (Or.inl ⟨by rfl, ?hy21⟩) (KEEP.out _ X9.out) ?rest21
  case hy21 => intro W hSW; (try dsimp only at hSW); obtain ⟨e0, e1, e2, e3, e4, e5, e6, f0⟩ := hSW; go_simp <;> with_reducible rfl
  try simp only [Act.put, lsa, lsb, lsc]
  refine EG_take 23 (v := ?v22) (by simp only [lga, lgb, lgc]; rfl) (by kernel_rfl) (by kernel_rfl) (by decide) (fun _ _ _ h => h) (Or.inl ⟨by rfl, ?hy22⟩) (KEEP.out _ X9.out) ?rest22
  case hy22 => intro W hSW; (try dsimp only at hSW); obtain ⟨e0, e1, e2, e3, e4, e5, e6, f0⟩ := hSW; go_simp <;> with_reducible rfl
  try simp only [Act.put, lsa, lsb, lsc]
  refine EG_take 24 (v := ?v23) (by simp only [lga, lgb, lgc]; rfl) (by kernel_rfl) (by kernel_rfl) (by decide) (fun _ _ _ h => h) (Or.inl ⟨by rfl, ?hy23⟩) (KEEP.out _ X9.out) ?rest23
  case hy23 => intro W hSW; (try dsimp only at hSW); obtain ⟨e0, e1, e2, e3, e4, e5, e6, f0⟩ := hSW; go_simp <;> with_reducible rfl
  try simp only [Act.put, lsa, lsb, lsc]
  refine EG_take 25 (v := ?v24) (by simp only [lga, lgb, lgc]; rfl) (by kernel_rfl) (by kernel_rfl) (by decide) (fun _ _ _ h => h) (Or.inl ⟨by rfl, ?hy24⟩) (KEEP.out _ X9.out) ?rest24
  case hy24 => intro W hSW; (try dsimp only at hSW); obtain ⟨e0, e1, e2, e3, e4, e5, e6, f0⟩ := hSW; go_simp <;> with_reducible rfl
  try simp only [Act.put, lsa, lsb, lsc]
  refine EG_end (by kernel_rfl) (by simp only [lga, lgb, lgc]; rfl) ?_
  intro K hK0
  have hK := hid hK0
  clear hK0
  go_simp
  refine hK.out _ _ ?_
  clear hK K
  refine NoPanic.normal ?_
  go_wp2_with fail
  go_ret
  exact ⟨rfl, (Z7.out.ext X9.out).below (by have := HB.out; omega) (fun k hk e => by omega)⟩
end Go.Proofs.Ytcddfenhkljpeaa

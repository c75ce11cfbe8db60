/- Layer 29: the document's bytes of an event. (Printed by gen_rscf.py.) -/
import Derived.Test.YtholjbnggnfapaaRscE
import Derived.Test.YtholjbnggnfapaaKitE
namespace Go.Proofs.Ytholjbnggnfapaa
open Go.BK Go.BK.SC Go.RowKit Go.Maps
set_option linter.unusedVariables false
set_option linter.unusedSimpArgs false
theorem rdj_new (w : World) (J : List Sb) (hJ : J.length ≤ 5) (h : ∀ s ∈ J, Rd w s.1 s.2.1 s.2.2) (hl : ∀ s ∈ J, s.2.2.length ≤ 5000) : RdJ (w.alloc (.cells (J.map sbv).toArray 22)) (some ⟨w.heap.size, 0, none⟩) J.length J := by
  refine ⟨?_, fun s hs => RdG.ext (h s hs) (ext_alloc _ _), hJ, hl⟩
  have := OwnG.new (ok := fun _ => True) (base := 0) (size := 1) (e := 22) w (J.map sbv) J.length J.length (Nat.zero_le _) (by simp) (Nat.le_refl _) (by unfold maxLen; omega) (fun _ _ => trivial)
  have h2 := this.rd
  rwa [List.take_of_length_le (by simp)] at h2
set_option maxHeartbeats 4000000 in
set_option maxRecDepth 100000 in
theorem rf_lay {w : World} {B : Option Addr} {d : Nat} {e : Ev} (h : Rd w B d e.b) (hb : e.b.length ≤ 4096) : Calls Try.prog 33 #[.agg #[.int .i64 e.kind, .int .i64 e.sort, .int .i64 e.who, .int .i64 e.port, .int .i64 e.conn, .int .i64 e.n, .slice B e.b.length d]] w fun r w' => ∃ O co, r = .returned (.slice O (layS e).length co) ∧ Own w' w.heap.size 5 O co (layS e) ∧ Ext w w' := by
  obtain ⟨k, s, wh, p, co, n, b⟩ := e
  simp only at h hb ⊢
  obtain ⟨nb, hnb⟩ : ∃ nb, b.length = nb := ⟨_, rfl⟩
  rw [hnb] at hb ⊢
  have HNB := hid hnb
  have xa := ext_alloc w (.cells #[.int .i64 k, .int .i64 s, .int .i64 wh, .int .i64 p, .int .i64 co, .int .i64 n, .slice B nb d] 34)
  have ba := Blk.new w 34 #[.int .i64 k, .int .i64 s, .int .i64 wh, .int .i64 p, .int .i64 co, .int .i64 n, .slice B nb d]
  obtain ⟨w1, hw1⟩ : ∃ w1, w.alloc (.cells #[.int .i64 k, .int .i64 s, .int .i64 wh, .int .i64 p, .int .i64 co, .int .i64 n, .slice B nb d] 34) = w1 := ⟨_, rfl⟩
  rw [hw1] at xa ba
  obtain ⟨gb, hgb⟩ : ∃ gb, w.heap.size = gb := ⟨_, rfl⟩
  rw [hgb] at ba
  have hs1 : w1.heap.size = gb + 1 := by rw [← hw1, ← hgb]; simp
  obtain ⟨K0, hK0⟩ : ∃ K0, byt (k - 1) = K0 := ⟨_, rfl⟩
  obtain ⟨K1, hK1⟩ : ∃ K1, IntKind.i64.wrap (k - 1) = K1 := ⟨_, rfl⟩
  have hK2 : IntKind.u8.wrap K1 = (K0.toNat : Int) := by rw [← hK1, byt_u8, ← hK0]; congr 2; exact byt_wrap _
  have xb := ext_alloc w1 (.cells #[.int .u8 K0.toNat] 5)
  have ob : Own (w1.alloc (.cells #[.int .u8 K0.toNat] 5)) w1.heap.size 5 (some ⟨w1.heap.size, 0, none⟩) 1 [K0] := OwnG.new (ok := isU8) (base := w1.heap.size) (size := 1) (e := 5) w1 [.int .u8 K0.toNat] 1 1 (Nat.le_refl _) rfl (Nat.le_refl _) (by simp [maxLen]) (by intro u hu; rw [List.mem_singleton] at hu; exact ⟨K0, hu⟩)
  obtain ⟨w2, hw2⟩ : ∃ w2, w1.alloc (.cells #[.int .u8 K0.toNat] 5) = w2 := ⟨_, rfl⟩
  rw [hw2] at xb ob
  rw [hs1] at ob
  have BA := hid (ba.ext xb)
  have XA := hid (ext_trans xa xb)
  have OB := hid ob
  have R2 := hid (RdG.ext (RdG.ext h xa) xb)
  have HW1 := hid hw1
  have HW2 := hid hw2
  have HGB := hid hgb
  have HK0 := hid hK0
  have HK1 := hid hK1
  have HK2 := hid hK2
  have k6 : w2.cell? ⟨gb, 6, none⟩ = some (.slice B nb d) := BA.out.cell 6
  have k0 : w2.cell? ⟨gb, 0, none⟩ = some (.int .i64 k) := BA.out.cell 0
  clear h xa xb ba ob hw1 hw2 hgb hs1 hK0 hnb
  obtain ⟨ls, hls⟩ : ∃ ls, layS ⟨k, s, wh, p, co, n, b⟩ = ls := ⟨_, rfl⟩
  rw [hls]
  have hls2 : ls = K0 :: (fieldsI k).flatMap (layF ⟨k, s, wh, p, co, n, b⟩) := by rw [← hls, ← HK0.out]; rfl
  have HLS := hid hls2
  clear hls hls2
  have HK6 := hid k6
  have HKK := hid k0
  clear k6 k0
  go_enter Try.func33, Try.ntmps33
  go_upto_region 2 with (fail)
  rw [HW1.out, HGB.out, HW2.out]
  have k6 := HK6.out
  clear hK1 hK2
  go_wp2_with fail
  refine (rf_put (nb : Int) 2 _ (by omega) (by omega)).mono ?_
  rintro r w3 ⟨O3, c3, rfl, o3, x3⟩
  have R3 : Hid (Rd w3 O3 c3 (be (nb : Int) 2)) := hid (OwnG.rd o3)
  have HS3 : Hid (w.heap.size ≤ w3.heap.size ∧ gb + 1 < w3.heap.size + 1) := hid (by have h1 := x3.size; have h2 := XA.out.size; have h3 := (OwnG.lt OB.out (gb + 1) rfl).2; omega)
  have RK : Hid (Rd w3 (some ⟨gb + 1, 0, none⟩) 1 [K0]) := hid (OwnG.rd (OwnG.ext OB.out x3))
  have RB : Hid (Rd w3 B d b) := hid (by have := RdG.ext R2.out x3; exact this)
  have FIN : Hid (∀ W, Ext w3 W → Ext w W) := hid (fun W x => ext_trans (ext_trans XA.out x3) x)
  have OK : Hid (Own w3 (gb + 1) 5 (some ⟨gb + 1, 0, none⟩) 1 [K0]) := hid (OwnG.ext OB.out x3)
  have KEEP : Hid (∀ W, Ext w3 W → W.cell? ⟨gb, 0, none⟩ = some (.int .i64 k) ∧ W.cell? ⟨gb, 1, none⟩ = some (.int .i64 s) ∧ W.cell? ⟨gb, 2, none⟩ = some (.int .i64 wh) ∧ W.cell? ⟨gb, 3, none⟩ = some (.int .i64 p) ∧ W.cell? ⟨gb, 4, none⟩ = some (.int .i64 co) ∧ W.cell? ⟨gb, 5, none⟩ = some (.int .i64 n) ∧ W.cell? ⟨gb, 6, none⟩ = some (.slice B nb d)) := hid (fun W x => (by
    have b2 := (BA.out.ext x3).ext x
    exact ⟨b2.cell 0, b2.cell 1, b2.cell 2, b2.cell 3, b2.cell 4, b2.cell 5, b2.cell 6⟩))
  have hk3 : w3.cell? ⟨gb, 0, none⟩ = some (.int .i64 k) := (KEEP.out w3 (ext_refl _)).1
  clear o3 x3 k6
  by_cases q1 : k = 1
  · subst q1
    go_upto_region 6 with (fail)
    refine wp_region_noPanic ?_
    refine region_E (S := fun W => W.cell? ⟨gb, 0, none⟩ = some (.int .i64 1) ∧ W.cell? ⟨gb, 1, none⟩ = some (.int .i64 s) ∧ W.cell? ⟨gb, 2, none⟩ = some (.int .i64 wh) ∧ W.cell? ⟨gb, 3, none⟩ = some (.int .i64 p) ∧ W.cell? ⟨gb, 4, none⟩ = some (.int .i64 co) ∧ W.cell? ⟨gb, 5, none⟩ = some (.int .i64 n) ∧ W.cell? ⟨gb, 6, none⟩ = some (.slice B nb d)) 12 (by kernel_rfl) (by kernel_rfl) (by kernel_rfl) ?_
    refine EG_take 0 (v := ?v1) (by simp only [List.getElem?_toArray, List.getElem?_cons_succ, List.getElem?_cons_zero]; rfl) (by kernel_rfl) (by kernel_rfl) (by decide) (fun _ _ _ h => h) (Or.inl ⟨by rfl, ?hy1⟩) (KEEP.out _ (ext_drew _)) ?rest1
    case hy1 => intro W hSW; (try dsimp only at hSW); obtain ⟨e0, e1, e2, e3, e4, e5, e6⟩ := hSW; go_simp <;> with_reducible rfl
    try simp only [Act.put, List.setIfInBounds_toArray, List.set_cons_zero, List.set_cons_succ]
    refine EG_take 1 (v := ?v2) (by simp only [List.getElem?_toArray, List.getElem?_cons_succ, List.getElem?_cons_zero]; rfl) (by kernel_rfl) (by kernel_rfl) (by decide) (fun _ _ _ h => h) (Or.inl ⟨by rfl, ?hy2⟩) (KEEP.out _ (ext_drew _)) ?rest2
    case hy2 => intro W hSW; (try dsimp only at hSW); obtain ⟨e0, e1, e2, e3, e4, e5, e6⟩ := hSW; go_simp <;> with_reducible rfl
    try simp only [Act.put, List.setIfInBounds_toArray, List.set_cons_zero, List.set_cons_succ]
    refine EG_take 2 (v := ?v3) (by simp only [List.getElem?_toArray, List.getElem?_cons_succ, List.getElem?_cons_zero]; rfl) (by kernel_rfl) (by kernel_rfl) (by decide) (fun _ _ _ h => h) (Or.inl ⟨by rfl, ?hy3⟩) (KEEP.out _ (ext_drew _)) ?rest3
    case hy3 => intro W hSW; (try dsimp only at hSW); obtain ⟨e0, e1, e2, e3, e4, e5, e6⟩ := hSW; go_simp <;> with_reducible rfl
    try simp only [Act.put, List.setIfInBounds_toArray, List.set_cons_zero, List.set_cons_succ]
    refine EG_take 4 (v := ?v4) (by simp only [List.getElem?_toArray, List.getElem?_cons_succ, List.getElem?_cons_zero]; rfl) (by kernel_rfl) (by kernel_rfl) (by decide) (fun _ _ _ h => h) (Or.inl ⟨by rfl, ?hy4⟩) (KEEP.out _ (ext_drew _)) ?rest4
    case hy4 => intro W hSW; (try dsimp only at hSW); obtain ⟨e0, e1, e2, e3, e4, e5, e6⟩ := hSW; go_simp <;> with_reducible rfl
    try simp only [Act.put, List.setIfInBounds_toArray, List.set_cons_zero, List.set_cons_succ]
    refine EG_take 5 (v := ?v5) (by simp only [List.getElem?_toArray, List.getElem?_cons_succ, List.getElem?_cons_zero]; rfl) (by kernel_rfl) (by kernel_rfl) (by decide) (fun _ _ _ h => h) (Or.inl ⟨by rfl, ?hy5⟩) (KEEP.out _ (ext_drew _)) ?rest5
    case hy5 => intro W hSW; (try dsimp only at hSW); obtain ⟨e0, e1, e2, e3, e4, e5, e6⟩ := hSW; go_simp <;> with_reducible rfl
    try simp only [Act.put, List.setIfInBounds_toArray, List.set_cons_zero, List.set_cons_succ]
    refine EG_take 7 (v := ?v6) (by simp only [List.getElem?_toArray, List.getElem?_cons_succ, List.getElem?_cons_zero]; rfl) (by kernel_rfl) (by kernel_rfl) (by decide) (fun _ _ _ h => h) (Or.inl ⟨by rfl, ?hy6⟩) (KEEP.out _ (ext_drew _)) ?rest6
    case hy6 => intro W hSW; (try dsimp only at hSW); obtain ⟨e0, e1, e2, e3, e4, e5, e6⟩ := hSW; go_simp <;> with_reducible rfl
    try simp only [Act.put, List.setIfInBounds_toArray, List.set_cons_zero, List.set_cons_succ]
    refine EG_take 8 (v := ?v7) (by simp only [List.getElem?_toArray, List.getElem?_cons_succ, List.getElem?_cons_zero]; rfl) (by kernel_rfl) (by kernel_rfl) (by decide) (fun _ _ _ h => h) (Or.inl ⟨by rfl, ?hy7⟩) (KEEP.out _ (ext_drew _)) ?rest7
    case hy7 => intro W hSW; (try dsimp only at hSW); obtain ⟨e0, e1, e2, e3, e4, e5, e6⟩ := hSW; go_simp <;> with_reducible rfl
    try simp only [Act.put, List.setIfInBounds_toArray, List.set_cons_zero, List.set_cons_succ]
    refine EG_take 9 (v := ?v8) (by simp only [List.getElem?_toArray, List.getElem?_cons_succ, List.getElem?_cons_zero]; rfl) (by kernel_rfl) (by kernel_rfl) (by decide) (fun _ _ _ h => h) (Or.inl ⟨by rfl, ?hy8⟩) (KEEP.out _ (ext_drew _)) ?rest8
    case hy8 => intro W hSW; (try dsimp only at hSW); obtain ⟨e0, e1, e2, e3, e4, e5, e6⟩ := hSW; go_simp <;> with_reducible rfl
    try simp only [Act.put, List.setIfInBounds_toArray, List.set_cons_zero, List.set_cons_succ]
    refine EG_one 3 (by kernel_rfl) (by simp only [List.getElem?_toArray, List.getElem?_cons_succ, List.getElem?_cons_zero]; rfl) (by decide) ?_
    intro K hK0
    have hK := hid hK0
    clear hK0
    go_simp
    refine (rf_put wh 4 _ (by omega) (by omega)).mono ?_
    rintro r w5 ⟨O5, c5, rfl, o5, x5⟩
    have X5 : Hid (Ext w3 w5) := hid (ext_trans (ext_drew w3) x5)
    have R5 : Hid (Rd w5 O5 c5 (be wh 4)) := hid (OwnG.rd o5)
    clear o5 x5
    go_simp
    refine hK.out _ _ (KEEP.out _ X5.out) ?_
    clear hK K
    try simp only [Act.put, List.setIfInBounds_toArray, List.set_cons_zero, List.set_cons_succ]
    refine EG_one 6 (by kernel_rfl) (by simp only [List.getElem?_toArray, List.getElem?_cons_succ, List.getElem?_cons_zero]; rfl) (by decide) ?_
    intro K hK0
    have hK := hid hK0
    clear hK0
    go_simp
    refine (rf_put p 2 _ (by omega) (by omega)).mono ?_
    rintro r w6 ⟨O6, c6, rfl, o6, x6⟩
    have X6 : Hid (Ext w3 w6) := hid (ext_trans X5.out x6)
    have R6 : Hid (Rd w6 O6 c6 (be p 2)) := hid (OwnG.rd o6)
    have R5 := hid (RdG.ext R5.out x6)
    clear o6 x6
    go_simp
    refine hK.out _ _ (KEEP.out _ X6.out) ?_
    clear hK K
    try simp only [Act.put, List.setIfInBounds_toArray, List.set_cons_zero, List.set_cons_succ]
    refine EG_one 10 (by kernel_rfl) (by simp only [List.getElem?_toArray, List.getElem?_cons_succ, List.getElem?_cons_zero]; rfl) (by decide) ?_
    intro K hK0
    have hK := hid hK0
    clear hK0
    go_simp
    have xw := X6.out
    have rk := RdG.ext RK.out xw
    have r3 := RdG.ext R3.out xw
    have rb := RdG.ext RB.out xw
    have RJ : Hid (RdJ (w6.alloc (.cells #[.slice (some ⟨gb + 1, 0, none⟩) 1 1, .slice O5 4 c5, .slice O6 2 c6, .slice O3 2 c3, .slice B nb d] 22)) (some ⟨w6.heap.size, 0, none⟩) 5 [(some ⟨gb + 1, 0, none⟩, 1, [K0]), (O5, c5, be wh 4), (O6, c6, be p 2), (O3, c3, be (nb : Int) 2), (B, d, b)]) := hid (by
      have h := rdj_new w6 [(some ⟨gb + 1, 0, none⟩, 1, [K0]), (O5, c5, be wh 4), (O6, c6, be p 2), (O3, c3, be (nb : Int) 2), (B, d, b)] (by simp) (by
        intro s hs
        simp only [List.mem_cons, List.not_mem_nil, or_false] at hs
        rcases hs with rfl | rfl | rfl | rfl | rfl
        · exact rk
        · exact R5.out
        · exact R6.out
        · exact r3
        · exact rb
        ) (by
        intro s hs
        have hbl := HNB.out
        simp only [List.mem_cons, List.not_mem_nil, or_false] at hs
        rcases hs with rfl | rfl | rfl | rfl | rfl <;> simp [be_len] <;> omega)
      simp only [List.map_cons, List.map_nil, sbv, HNB.out] at h
      exact h)
    have XB : Hid (Ext w3 (w6.alloc (.cells #[.slice (some ⟨gb + 1, 0, none⟩) 1 1, .slice O5 4 c5, .slice O6 2 c6, .slice O3 2 c3, .slice B nb d] 22))) := hid (ext_trans xw (ext_alloc _ _))
    clear rk xw r3 rb
    refine hK.out _ _ (KEEP.out _ XB.out) ?_
    clear hK K
    try simp only [Act.put, List.setIfInBounds_toArray, List.set_cons_zero, List.set_cons_succ]
    refine EG_one 11 (by kernel_rfl) (by simp only [List.getElem?_toArray, List.getElem?_cons_succ, List.getElem?_cons_zero]; rfl) (by decide) ?_
    intro K hK0
    have hK := hid hK0
    clear hK0
    go_simp
    refine (rf_join RJ.out ls (by rw [HLS.out]; simp [fieldsI, fieldsS, layF, SC.getF, F.size, HNB.out])).mono ?_
    rintro r w9 ⟨O9, c9, rfl, o9, x9⟩
    have O9H := hid o9
    have X9 : Hid (Ext w3 w9) := hid (ext_trans XB.out x9)
    have XS := hid XB.out.size
    clear o9 x9
    go_simp
    refine hK.out _ _ (KEEP.out _ X9.out) ?_
    clear hK K
    try simp only [Act.put, List.setIfInBounds_toArray, List.set_cons_zero, List.set_cons_succ]
    refine EG_end (by kernel_rfl) (by simp only [List.getElem?_toArray, List.getElem?_cons_succ, List.getElem?_cons_zero]; rfl) ?_
    intro K hK0
    have hK := hid hK0
    clear hK0
    go_simp
    refine hK.out _ _ ?_
    clear hK K
    refine NoPanic.normal ?_
    go_wp2
    go_ret
    exact ⟨O9, c9, rfl, OwnG.mono O9H.out (by have := XS.out; have := HS3.out; omega), FIN.out _ X9.out⟩
  by_cases q8 : k = 8
  · subst q8
    go_upto_region 6 with (fail)
    refine wp_region_noPanic ?_
    refine region_E (S := fun W => W.cell? ⟨gb, 0, none⟩ = some (.int .i64 8) ∧ W.cell? ⟨gb, 1, none⟩ = some (.int .i64 s) ∧ W.cell? ⟨gb, 2, none⟩ = some (.int .i64 wh) ∧ W.cell? ⟨gb, 3, none⟩ = some (.int .i64 p) ∧ W.cell? ⟨gb, 4, none⟩ = some (.int .i64 co) ∧ W.cell? ⟨gb, 5, none⟩ = some (.int .i64 n) ∧ W.cell? ⟨gb, 6, none⟩ = some (.slice B nb d)) 12 (by kernel_rfl) (by kernel_rfl) (by kernel_rfl) ?_
    refine EG_take 0 (v := ?v9) (by simp only [List.getElem?_toArray, List.getElem?_cons_succ, List.getElem?_cons_zero]; rfl) (by kernel_rfl) (by kernel_rfl) (by decide) (fun _ _ _ h => h) (Or.inl ⟨by rfl, ?hy9⟩) (KEEP.out _ (ext_drew _)) ?rest9
    case hy9 => intro W hSW; (try dsimp only at hSW); obtain ⟨e0, e1, e2, e3, e4, e5, e6⟩ := hSW; go_simp <;> with_reducible rfl
    try simp only [Act.put, List.setIfInBounds_toArray, List.set_cons_zero, List.set_cons_succ]
    refine EG_take 1 (v := ?v10) (by simp only [List.getElem?_toArray, List.getElem?_cons_succ, List.getElem?_cons_zero]; rfl) (by kernel_rfl) (by kernel_rfl) (by decide) (fun _ _ _ h => h) (Or.inl ⟨by rfl, ?hy10⟩) (KEEP.out _ (ext_drew _)) ?rest10
    case hy10 => intro W hSW; (try dsimp only at hSW); obtain ⟨e0, e1, e2, e3, e4, e5, e6⟩ := hSW; go_simp <;> with_reducible rfl
    try simp only [Act.put, List.setIfInBounds_toArray, List.set_cons_zero, List.set_cons_succ]
    refine EG_take 2 (v := ?v11) (by simp only [List.getElem?_toArray, List.getElem?_cons_succ, List.getElem?_cons_zero]; rfl) (by kernel_rfl) (by kernel_rfl) (by decide) (fun _ _ _ h => h) (Or.inl ⟨by rfl, ?hy11⟩) (KEEP.out _ (ext_drew _)) ?rest11
    case hy11 => intro W hSW; (try dsimp only at hSW); obtain ⟨e0, e1, e2, e3, e4, e5, e6⟩ := hSW; go_simp <;> with_reducible rfl
    try simp only [Act.put, List.setIfInBounds_toArray, List.set_cons_zero, List.set_cons_succ]
    refine EG_take 4 (v := ?v12) (by simp only [List.getElem?_toArray, List.getElem?_cons_succ, List.getElem?_cons_zero]; rfl) (by kernel_rfl) (by kernel_rfl) (by decide) (fun _ _ _ h => h) (Or.inl ⟨by rfl, ?hy12⟩) (KEEP.out _ (ext_drew _)) ?rest12
    case hy12 => intro W hSW; (try dsimp only at hSW); obtain ⟨e0, e1, e2, e3, e4, e5, e6⟩ := hSW; go_simp <;> with_reducible rfl
    try simp only [Act.put, List.setIfInBounds_toArray, List.set_cons_zero, List.set_cons_succ]
    refine EG_take 5 (v := ?v13) (by simp only [List.getElem?_toArray, List.getElem?_cons_succ, List.getElem?_cons_zero]; rfl) (by kernel_rfl) (by kernel_rfl) (by decide) (fun _ _ _ h => h) (Or.inl ⟨by rfl, ?hy13⟩) (KEEP.out _ (ext_drew _)) ?rest13
    case hy13 => intro W hSW; (try dsimp only at hSW); obtain ⟨e0, e1, e2, e3, e4, e5, e6⟩ := hSW; go_simp <;> with_reducible rfl
    try simp only [Act.put, List.setIfInBounds_toArray, List.set_cons_zero, List.set_cons_succ]
    refine EG_take 7 (v := ?v14) (by simp only [List.getElem?_toArray, List.getElem?_cons_succ, List.getElem?_cons_zero]; rfl) (by kernel_rfl) (by kernel_rfl) (by decide) (fun _ _ _ h => h) (Or.inl ⟨by rfl, ?hy14⟩) (KEEP.out _ (ext_drew _)) ?rest14
    case hy14 => intro W hSW; (try dsimp only at hSW); obtain ⟨e0, e1, e2, e3, e4, e5, e6⟩ := hSW; go_simp <;> with_reducible rfl
    try simp only [Act.put, List.setIfInBounds_toArray, List.set_cons_zero, List.set_cons_succ]
    refine EG_take 8 (v := ?v15) (by simp only [List.getElem?_toArray, List.getElem?_cons_succ, List.getElem?_cons_zero]; rfl) (by kernel_rfl) (by kernel_rfl) (by decide) (fun _ _ _ h => h) (Or.inl ⟨by rfl, ?hy15⟩) (KEEP.out _ (ext_drew _)) ?rest15
    case hy15 => intro W hSW; (try dsimp only at hSW); obtain ⟨e0, e1, e2, e3, e4, e5, e6⟩ := hSW; go_simp <;> with_reducible rfl
    try simp only [Act.put, List.setIfInBounds_toArray, List.set_cons_zero, List.set_cons_succ]
    refine EG_take 9 (v := ?v16) (by simp only [List.getElem?_toArray, List.getElem?_cons_succ, List.getElem?_cons_zero]; rfl) (by kernel_rfl) (by kernel_rfl) (by decide) (fun _ _ _ h => h) (Or.inl ⟨by rfl, ?hy16⟩) (KEEP.out _ (ext_drew _)) ?rest16
    case hy16 => intro W hSW; (try dsimp only at hSW); obtain ⟨e0, e1, e2, e3, e4, e5, e6⟩ := hSW; go_simp <;> with_reducible rfl
    try simp only [Act.put, List.setIfInBounds_toArray, List.set_cons_zero, List.set_cons_succ]
    refine EG_one 3 (by kernel_rfl) (by simp only [List.getElem?_toArray, List.getElem?_cons_succ, List.getElem?_cons_zero]; rfl) (by decide) ?_
    intro K hK0
    have hK := hid hK0
    clear hK0
    go_simp
    refine (rf_put wh 4 _ (by omega) (by omega)).mono ?_
    rintro r w5 ⟨O5, c5, rfl, o5, x5⟩
    have X5 : Hid (Ext w3 w5) := hid (ext_trans (ext_drew w3) x5)
    have R5 : Hid (Rd w5 O5 c5 (be wh 4)) := hid (OwnG.rd o5)
    clear o5 x5
    go_simp
    refine hK.out _ _ (KEEP.out _ X5.out) ?_
    clear hK K
    try simp only [Act.put, List.setIfInBounds_toArray, List.set_cons_zero, List.set_cons_succ]
    refine EG_one 6 (by kernel_rfl) (by simp only [List.getElem?_toArray, List.getElem?_cons_succ, List.getElem?_cons_zero]; rfl) (by decide) ?_
    intro K hK0
    have hK := hid hK0
    clear hK0
    go_simp
    refine (rf_put p 2 _ (by omega) (by omega)).mono ?_
    rintro r w6 ⟨O6, c6, rfl, o6, x6⟩
    have X6 : Hid (Ext w3 w6) := hid (ext_trans X5.out x6)
    have R6 : Hid (Rd w6 O6 c6 (be p 2)) := hid (OwnG.rd o6)
    have R5 := hid (RdG.ext R5.out x6)
    clear o6 x6
    go_simp
    refine hK.out _ _ (KEEP.out _ X6.out) ?_
    clear hK K
    try simp only [Act.put, List.setIfInBounds_toArray, List.set_cons_zero, List.set_cons_succ]
    refine EG_one 10 (by kernel_rfl) (by simp only [List.getElem?_toArray, List.getElem?_cons_succ, List.getElem?_cons_zero]; rfl) (by decide) ?_
    intro K hK0
    have hK := hid hK0
    clear hK0
    go_simp
    have xw := X6.out
    have rk := RdG.ext RK.out xw
    have r3 := RdG.ext R3.out xw
    have rb := RdG.ext RB.out xw
    have RJ : Hid (RdJ (w6.alloc (.cells #[.slice (some ⟨gb + 1, 0, none⟩) 1 1, .slice O5 4 c5, .slice O6 2 c6, .slice O3 2 c3, .slice B nb d] 22)) (some ⟨w6.heap.size, 0, none⟩) 5 [(some ⟨gb + 1, 0, none⟩, 1, [K0]), (O5, c5, be wh 4), (O6, c6, be p 2), (O3, c3, be (nb : Int) 2), (B, d, b)]) := hid (by
      have h := rdj_new w6 [(some ⟨gb + 1, 0, none⟩, 1, [K0]), (O5, c5, be wh 4), (O6, c6, be p 2), (O3, c3, be (nb : Int) 2), (B, d, b)] (by simp) (by
        intro s hs
        simp only [List.mem_cons, List.not_mem_nil, or_false] at hs
        rcases hs with rfl | rfl | rfl | rfl | rfl
        · exact rk
        · exact R5.out
        · exact R6.out
        · exact r3
        · exact rb
        ) (by
        intro s hs
        have hbl := HNB.out
        simp only [List.mem_cons, List.not_mem_nil, or_false] at hs
        rcases hs with rfl | rfl | rfl | rfl | rfl <;> simp [be_len] <;> omega)
      simp only [List.map_cons, List.map_nil, sbv, HNB.out] at h
      exact h)
    have XB : Hid (Ext w3 (w6.alloc (.cells #[.slice (some ⟨gb + 1, 0, none⟩) 1 1, .slice O5 4 c5, .slice O6 2 c6, .slice O3 2 c3, .slice B nb d] 22))) := hid (ext_trans xw (ext_alloc _ _))
    clear rk xw r3 rb
    refine hK.out _ _ (KEEP.out _ XB.out) ?_
    clear hK K
    try simp only [Act.put, List.setIfInBounds_toArray, List.set_cons_zero, List.set_cons_succ]
    refine EG_one 11 (by kernel_rfl) (by simp only [List.getElem?_toArray, List.getElem?_cons_succ, List.getElem?_cons_zero]; rfl) (by decide) ?_
    intro K hK0
    have hK := hid hK0
    clear hK0
    go_simp
    refine (rf_join RJ.out ls (by rw [HLS.out]; simp [fieldsI, fieldsS, layF, SC.getF, F.size, HNB.out])).mono ?_
    rintro r w9 ⟨O9, c9, rfl, o9, x9⟩
    have O9H := hid o9
    have X9 : Hid (Ext w3 w9) := hid (ext_trans XB.out x9)
    have XS := hid XB.out.size
    clear o9 x9
    go_simp
    refine hK.out _ _ (KEEP.out _ X9.out) ?_
    clear hK K
    try simp only [Act.put, List.setIfInBounds_toArray, List.set_cons_zero, List.set_cons_succ]
    refine EG_end (by kernel_rfl) (by simp only [List.getElem?_toArray, List.getElem?_cons_succ, List.getElem?_cons_zero]; rfl) ?_
    intro K hK0
    have hK := hid hK0
    clear hK0
    go_simp
    refine hK.out _ _ ?_
    clear hK K
    refine NoPanic.normal ?_
    go_wp2
    go_ret
    exact ⟨O9, c9, rfl, OwnG.mono O9H.out (by have := XS.out; have := HS3.out; omega), FIN.out _ X9.out⟩
  by_cases q2 : k = 2
  · subst q2
    go_upto_region 8 with (fail)
    refine wp_region_noPanic ?_
    refine region_E (S := fun W => W.cell? ⟨gb, 0, none⟩ = some (.int .i64 2) ∧ W.cell? ⟨gb, 1, none⟩ = some (.int .i64 s) ∧ W.cell? ⟨gb, 2, none⟩ = some (.int .i64 wh) ∧ W.cell? ⟨gb, 3, none⟩ = some (.int .i64 p) ∧ W.cell? ⟨gb, 4, none⟩ = some (.int .i64 co) ∧ W.cell? ⟨gb, 5, none⟩ = some (.int .i64 n) ∧ W.cell? ⟨gb, 6, none⟩ = some (.slice B nb d)) 9 (by kernel_rfl) (by kernel_rfl) (by kernel_rfl) ?_
    refine EG_take 0 (v := ?v17) (by simp only [List.getElem?_toArray, List.getElem?_cons_succ, List.getElem?_cons_zero]; rfl) (by kernel_rfl) (by kernel_rfl) (by decide) (fun _ _ _ h => h) (Or.inl ⟨by rfl, ?hy17⟩) (KEEP.out _ (ext_drew _)) ?rest17
    case hy17 => intro W hSW; (try dsimp only at hSW); obtain ⟨e0, e1, e2, e3, e4, e5, e6⟩ := hSW; go_simp <;> with_reducible rfl
    try simp only [Act.put, List.setIfInBounds_toArray, List.set_cons_zero, List.set_cons_succ]
    refine EG_take 1 (v := ?v18) (by simp only [List.getElem?_toArray, List.getElem?_cons_succ, List.getElem?_cons_zero]; rfl) (by kernel_rfl) (by kernel_rfl) (by decide) (fun _ _ _ h => h) (Or.inl ⟨by rfl, ?hy18⟩) (KEEP.out _ (ext_drew _)) ?rest18
    case hy18 => intro W hSW; (try dsimp only at hSW); obtain ⟨e0, e1, e2, e3, e4, e5, e6⟩ := hSW; go_simp <;> with_reducible rfl
    try simp only [Act.put, List.setIfInBounds_toArray, List.set_cons_zero, List.set_cons_succ]
    refine EG_take 2 (v := ?v19) (by simp only [List.getElem?_toArray, List.getElem?_cons_succ, List.getElem?_cons_zero]; rfl) (by kernel_rfl) (by kernel_rfl) (by decide) (fun _ _ _ h => h) (Or.inl ⟨by rfl, ?hy19⟩) (KEEP.out _ (ext_drew _)) ?rest19
    case hy19 => intro W hSW; (try dsimp only at hSW); obtain ⟨e0, e1, e2, e3, e4, e5, e6⟩ := hSW; go_simp <;> with_reducible rfl
    try simp only [Act.put, List.setIfInBounds_toArray, List.set_cons_zero, List.set_cons_succ]
    refine EG_take 4 (v := ?v20) (by simp only [List.getElem?_toArray, List.getElem?_cons_succ, List.getElem?_cons_zero]; rfl) (by kernel_rfl) (by kernel_rfl) (by decide) (fun _ _ _ h => h) (Or.inl ⟨by rfl, ?hy20⟩) (KEEP.out _ (ext_drew _)) ?rest20
    case hy20 => intro W hSW; (try dsimp only at hSW); obtain ⟨e0, e1, e2, e3, e4, e5, e6⟩ := hSW; go_simp <;> with_reducible rfl
    try simp only [Act.put, List.setIfInBounds_toArray, List.set_cons_zero, List.set_cons_succ]
    refine EG_take 5 (v := ?v21) (by simp only [List.getElem?_toArray, List.getElem?_cons_succ, List.getElem?_cons_zero]; rfl) (by kernel_rfl) (by kernel_rfl) (by decide) (fun _ _ _ h => h) (Or.inl ⟨by rfl, ?hy21⟩) (KEEP.out _ (ext_drew _)) ?rest21
    case hy21 => intro W hSW; (try dsimp only at hSW); obtain ⟨e0, e1, e2, e3, e4, e5, e6⟩ := hSW; go_simp <;> with_reducible rfl
    try simp only [Act.put, List.setIfInBounds_toArray, List.set_cons_zero, List.set_cons_succ]
    refine EG_one 3 (by kernel_rfl) (by simp only [List.getElem?_toArray, List.getElem?_cons_succ, List.getElem?_cons_zero]; rfl) (by decide) ?_
    intro K hK0
    have hK := hid hK0
    clear hK0
    go_simp
    refine (rf_put s 1 _ (by omega) (by omega)).mono ?_
    rintro r w5 ⟨O5, c5, rfl, o5, x5⟩
    have X5 : Hid (Ext w3 w5) := hid (ext_trans (ext_drew w3) x5)
    have R5 : Hid (Rd w5 O5 c5 (be s 1)) := hid (OwnG.rd o5)
    clear o5 x5
    go_simp
    refine hK.out _ _ (KEEP.out _ X5.out) ?_
    clear hK K
    try simp only [Act.put, List.setIfInBounds_toArray, List.set_cons_zero, List.set_cons_succ]
    refine EG_one 6 (by kernel_rfl) (by simp only [List.getElem?_toArray, List.getElem?_cons_succ, List.getElem?_cons_zero]; rfl) (by decide) ?_
    intro K hK0
    have hK := hid hK0
    clear hK0
    go_simp
    refine (rf_put wh 4 _ (by omega) (by omega)).mono ?_
    rintro r w6 ⟨O6, c6, rfl, o6, x6⟩
    have X6 : Hid (Ext w3 w6) := hid (ext_trans X5.out x6)
    have R6 : Hid (Rd w6 O6 c6 (be wh 4)) := hid (OwnG.rd o6)
    have R5 := hid (RdG.ext R5.out x6)
    clear o6 x6
    go_simp
    refine hK.out _ _ (KEEP.out _ X6.out) ?_
    clear hK K
    try simp only [Act.put, List.setIfInBounds_toArray, List.set_cons_zero, List.set_cons_succ]
    refine EG_one 7 (by kernel_rfl) (by simp only [List.getElem?_toArray, List.getElem?_cons_succ, List.getElem?_cons_zero]; rfl) (by decide) ?_
    intro K hK0
    have hK := hid hK0
    clear hK0
    go_simp
    have xw := X6.out
    have rk := RdG.ext RK.out xw
    have RJ : Hid (RdJ (w6.alloc (.cells #[.slice (some ⟨gb + 1, 0, none⟩) 1 1, .slice O5 1 c5, .slice O6 4 c6] 22)) (some ⟨w6.heap.size, 0, none⟩) 3 [(some ⟨gb + 1, 0, none⟩, 1, [K0]), (O5, c5, be s 1), (O6, c6, be wh 4)]) := hid (by
      have h := rdj_new w6 [(some ⟨gb + 1, 0, none⟩, 1, [K0]), (O5, c5, be s 1), (O6, c6, be wh 4)] (by simp) (by
        intro s hs
        simp only [List.mem_cons, List.not_mem_nil, or_false] at hs
        rcases hs with rfl | rfl | rfl
        · exact rk
        · exact R5.out
        · exact R6.out
        ) (by
        intro s hs
        have hbl := HNB.out
        simp only [List.mem_cons, List.not_mem_nil, or_false] at hs
        rcases hs with rfl | rfl | rfl <;> simp [be_len] <;> omega)
      exact h)
    have XB : Hid (Ext w3 (w6.alloc (.cells #[.slice (some ⟨gb + 1, 0, none⟩) 1 1, .slice O5 1 c5, .slice O6 4 c6] 22))) := hid (ext_trans xw (ext_alloc _ _))
    clear rk xw
    refine hK.out _ _ (KEEP.out _ XB.out) ?_
    clear hK K
    try simp only [Act.put, List.setIfInBounds_toArray, List.set_cons_zero, List.set_cons_succ]
    refine EG_one 8 (by kernel_rfl) (by simp only [List.getElem?_toArray, List.getElem?_cons_succ, List.getElem?_cons_zero]; rfl) (by decide) ?_
    intro K hK0
    have hK := hid hK0
    clear hK0
    go_simp
    refine (rf_join RJ.out ls (by rw [HLS.out]; simp [fieldsI, fieldsS, layF, SC.getF, F.size])).mono ?_
    rintro r w9 ⟨O9, c9, rfl, o9, x9⟩
    have O9H := hid o9
    have X9 : Hid (Ext w3 w9) := hid (ext_trans XB.out x9)
    have XS := hid XB.out.size
    clear o9 x9
    go_simp
    refine hK.out _ _ (KEEP.out _ X9.out) ?_
    clear hK K
    try simp only [Act.put, List.setIfInBounds_toArray, List.set_cons_zero, List.set_cons_succ]
    refine EG_end (by kernel_rfl) (by simp only [List.getElem?_toArray, List.getElem?_cons_succ, List.getElem?_cons_zero]; rfl) ?_
    intro K hK0
    have hK := hid hK0
    clear hK0
    go_simp
    refine hK.out _ _ ?_
    clear hK K
    refine NoPanic.normal ?_
    go_wp2
    go_ret
    exact ⟨O9, c9, rfl, OwnG.mono O9H.out (by have := XS.out; have := HS3.out; omega), FIN.out _ X9.out⟩
  by_cases q3 : k = 3
  · subst q3
    go_upto_region 10 with (fail)
    refine wp_region_noPanic ?_
    refine region_E (S := fun W => W.cell? ⟨gb, 0, none⟩ = some (.int .i64 3) ∧ W.cell? ⟨gb, 1, none⟩ = some (.int .i64 s) ∧ W.cell? ⟨gb, 2, none⟩ = some (.int .i64 wh) ∧ W.cell? ⟨gb, 3, none⟩ = some (.int .i64 p) ∧ W.cell? ⟨gb, 4, none⟩ = some (.int .i64 co) ∧ W.cell? ⟨gb, 5, none⟩ = some (.int .i64 n) ∧ W.cell? ⟨gb, 6, none⟩ = some (.slice B nb d)) 9 (by kernel_rfl) (by kernel_rfl) (by kernel_rfl) ?_
    refine EG_take 0 (v := ?v22) (by simp only [List.getElem?_toArray, List.getElem?_cons_succ, List.getElem?_cons_zero]; rfl) (by kernel_rfl) (by kernel_rfl) (by decide) (fun _ _ _ h => h) (Or.inl ⟨by rfl, ?hy22⟩) (KEEP.out _ (ext_drew _)) ?rest22
    case hy22 => intro W hSW; (try dsimp only at hSW); obtain ⟨e0, e1, e2, e3, e4, e5, e6⟩ := hSW; go_simp <;> with_reducible rfl
    try simp only [Act.put, List.setIfInBounds_toArray, List.set_cons_zero, List.set_cons_succ]
    refine EG_take 1 (v := ?v23) (by simp only [List.getElem?_toArray, List.getElem?_cons_succ, List.getElem?_cons_zero]; rfl) (by kernel_rfl) (by kernel_rfl) (by decide) (fun _ _ _ h => h) (Or.inl ⟨by rfl, ?hy23⟩) (KEEP.out _ (ext_drew _)) ?rest23
    case hy23 => intro W hSW; (try dsimp only at hSW); obtain ⟨e0, e1, e2, e3, e4, e5, e6⟩ := hSW; go_simp <;> with_reducible rfl
    try simp only [Act.put, List.setIfInBounds_toArray, List.set_cons_zero, List.set_cons_succ]
    refine EG_take 2 (v := ?v24) (by simp only [List.getElem?_toArray, List.getElem?_cons_succ, List.getElem?_cons_zero]; rfl) (by kernel_rfl) (by kernel_rfl) (by decide) (fun _ _ _ h => h) (Or.inl ⟨by rfl, ?hy24⟩) (KEEP.out _ (ext_drew _)) ?rest24
    case hy24 => intro W hSW; (try dsimp only at hSW); obtain ⟨e0, e1, e2, e3, e4, e5, e6⟩ := hSW; go_simp <;> with_reducible rfl
    try simp only [Act.put, List.setIfInBounds_toArray, List.set_cons_zero, List.set_cons_succ]
    refine EG_take 4 (v := ?v25) (by simp only [List.getElem?_toArray, List.getElem?_cons_succ, List.getElem?_cons_zero]; rfl) (by kernel_rfl) (by kernel_rfl) (by decide) (fun _ _ _ h => h) (Or.inl ⟨by rfl, ?hy25⟩) (KEEP.out _ (ext_drew _)) ?rest25
    case hy25 => intro W hSW; (try dsimp only at hSW); obtain ⟨e0, e1, e2, e3, e4, e5, e6⟩ := hSW; go_simp <;> with_reducible rfl
    try simp only [Act.put, List.setIfInBounds_toArray, List.set_cons_zero, List.set_cons_succ]
    refine EG_take 5 (v := ?v26) (by simp only [List.getElem?_toArray, List.getElem?_cons_succ, List.getElem?_cons_zero]; rfl) (by kernel_rfl) (by kernel_rfl) (by decide) (fun _ _ _ h => h) (Or.inl ⟨by rfl, ?hy26⟩) (KEEP.out _ (ext_drew _)) ?rest26
    case hy26 => intro W hSW; (try dsimp only at hSW); obtain ⟨e0, e1, e2, e3, e4, e5, e6⟩ := hSW; go_simp <;> with_reducible rfl
    try simp only [Act.put, List.setIfInBounds_toArray, List.set_cons_zero, List.set_cons_succ]
    refine EG_take 6 (v := ?v27) (by simp only [List.getElem?_toArray, List.getElem?_cons_succ, List.getElem?_cons_zero]; rfl) (by kernel_rfl) (by kernel_rfl) (by decide) (fun _ _ _ h => h) (Or.inl ⟨by rfl, ?hy27⟩) (KEEP.out _ (ext_drew _)) ?rest27
    case hy27 => intro W hSW; (try dsimp only at hSW); obtain ⟨e0, e1, e2, e3, e4, e5, e6⟩ := hSW; go_simp <;> with_reducible rfl
    try simp only [Act.put, List.setIfInBounds_toArray, List.set_cons_zero, List.set_cons_succ]
    refine EG_one 3 (by kernel_rfl) (by simp only [List.getElem?_toArray, List.getElem?_cons_succ, List.getElem?_cons_zero]; rfl) (by decide) ?_
    intro K hK0
    have hK := hid hK0
    clear hK0
    go_simp
    refine (rf_put co 2 _ (by omega) (by omega)).mono ?_
    rintro r w5 ⟨O5, c5, rfl, o5, x5⟩
    have X5 : Hid (Ext w3 w5) := hid (ext_trans (ext_drew w3) x5)
    have R5 : Hid (Rd w5 O5 c5 (be co 2)) := hid (OwnG.rd o5)
    clear o5 x5
    go_simp
    refine hK.out _ _ (KEEP.out _ X5.out) ?_
    clear hK K
    try simp only [Act.put, List.setIfInBounds_toArray, List.set_cons_zero, List.set_cons_succ]
    refine EG_one 7 (by kernel_rfl) (by simp only [List.getElem?_toArray, List.getElem?_cons_succ, List.getElem?_cons_zero]; rfl) (by decide) ?_
    intro K hK0
    have hK := hid hK0
    clear hK0
    go_simp
    have xw := X5.out
    have rk := RdG.ext RK.out xw
    have r3 := RdG.ext R3.out xw
    have rb := RdG.ext RB.out xw
    have RJ : Hid (RdJ (w5.alloc (.cells #[.slice (some ⟨gb + 1, 0, none⟩) 1 1, .slice O5 2 c5, .slice O3 2 c3, .slice B nb d] 22)) (some ⟨w5.heap.size, 0, none⟩) 4 [(some ⟨gb + 1, 0, none⟩, 1, [K0]), (O5, c5, be co 2), (O3, c3, be (nb : Int) 2), (B, d, b)]) := hid (by
      have h := rdj_new w5 [(some ⟨gb + 1, 0, none⟩, 1, [K0]), (O5, c5, be co 2), (O3, c3, be (nb : Int) 2), (B, d, b)] (by simp) (by
        intro s hs
        simp only [List.mem_cons, List.not_mem_nil, or_false] at hs
        rcases hs with rfl | rfl | rfl | rfl
        · exact rk
        · exact R5.out
        · exact r3
        · exact rb
        ) (by
        intro s hs
        have hbl := HNB.out
        simp only [List.mem_cons, List.not_mem_nil, or_false] at hs
        rcases hs with rfl | rfl | rfl | rfl <;> simp [be_len] <;> omega)
      simp only [List.map_cons, List.map_nil, sbv, HNB.out] at h
      exact h)
    have XB : Hid (Ext w3 (w5.alloc (.cells #[.slice (some ⟨gb + 1, 0, none⟩) 1 1, .slice O5 2 c5, .slice O3 2 c3, .slice B nb d] 22))) := hid (ext_trans xw (ext_alloc _ _))
    clear rk xw r3 rb
    refine hK.out _ _ (KEEP.out _ XB.out) ?_
    clear hK K
    try simp only [Act.put, List.setIfInBounds_toArray, List.set_cons_zero, List.set_cons_succ]
    refine EG_one 8 (by kernel_rfl) (by simp only [List.getElem?_toArray, List.getElem?_cons_succ, List.getElem?_cons_zero]; rfl) (by decide) ?_
    intro K hK0
    have hK := hid hK0
    clear hK0
    go_simp
    refine (rf_join RJ.out ls (by rw [HLS.out]; simp [fieldsI, fieldsS, layF, SC.getF, F.size, HNB.out])).mono ?_
    rintro r w9 ⟨O9, c9, rfl, o9, x9⟩
    have O9H := hid o9
    have X9 : Hid (Ext w3 w9) := hid (ext_trans XB.out x9)
    have XS := hid XB.out.size
    clear o9 x9
    go_simp
    refine hK.out _ _ (KEEP.out _ X9.out) ?_
    clear hK K
    try simp only [Act.put, List.setIfInBounds_toArray, List.set_cons_zero, List.set_cons_succ]
    refine EG_end (by kernel_rfl) (by simp only [List.getElem?_toArray, List.getElem?_cons_succ, List.getElem?_cons_zero]; rfl) ?_
    intro K hK0
    have hK := hid hK0
    clear hK0
    go_simp
    refine hK.out _ _ ?_
    clear hK K
    refine NoPanic.normal ?_
    go_wp2
    go_ret
    exact ⟨O9, c9, rfl, OwnG.mono O9H.out (by have := XS.out; have := HS3.out; omega), FIN.out _ X9.out⟩
  by_cases q4 : k = 4
  · subst q4
    obtain ⟨k0, k1, k2, k3, k4, k5, k6⟩ := KEEP.out w3 (ext_refl _)
    go_wp2_with fail
    refine (rf_put co 2 _ (by omega) (by omega)).mono ?_
    rintro r w5 ⟨O5, c5, rfl, o5, x5⟩
    have X5 : Hid (Ext w3 w5) := hid (ext_trans (ext_refl w3) x5)
    have R5 : Hid (Rd w5 O5 c5 (be co 2)) := hid (OwnG.rd o5)
    clear o5 x5
    have xw := X5.out
    have rk := RdG.ext RK.out xw
    have RJ : Hid (RdJ (w5.alloc (.cells #[.slice (some ⟨gb + 1, 0, none⟩) 1 1, .slice O5 2 c5] 22)) (some ⟨w5.heap.size, 0, none⟩) 2 [(some ⟨gb + 1, 0, none⟩, 1, [K0]), (O5, c5, be co 2)]) := hid (by
      have h := rdj_new w5 [(some ⟨gb + 1, 0, none⟩, 1, [K0]), (O5, c5, be co 2)] (by simp) (by
        intro s hs
        simp only [List.mem_cons, List.not_mem_nil, or_false] at hs
        rcases hs with rfl | rfl
        · exact rk
        · exact R5.out
        ) (by
        intro s hs
        have hbl := HNB.out
        simp only [List.mem_cons, List.not_mem_nil, or_false] at hs
        rcases hs with rfl | rfl <;> simp [be_len] <;> omega)
      exact h)
    have XB : Hid (Ext w3 (w5.alloc (.cells #[.slice (some ⟨gb + 1, 0, none⟩) 1 1, .slice O5 2 c5] 22))) := hid (ext_trans xw (ext_alloc _ _))
    clear rk xw
    go_wp2_with fail
    refine (rf_join RJ.out ls (by rw [HLS.out]; simp [fieldsI, fieldsS, layF, SC.getF, F.size])).mono ?_
    rintro r w9 ⟨O9, c9, rfl, o9, x9⟩
    have O9H := hid o9
    have X9 : Hid (Ext w3 w9) := hid (ext_trans XB.out x9)
    have XS := hid XB.out.size
    clear o9 x9
    go_wp2_with fail
    go_ret
    exact ⟨O9, c9, rfl, OwnG.mono O9H.out (by have := XS.out; have := HS3.out; omega), FIN.out _ X9.out⟩
  by_cases q5 : k = 5
  · subst q5
    go_upto_region 14 with (fail)
    refine wp_region_noPanic ?_
    refine region_E (S := fun W => W.cell? ⟨gb, 0, none⟩ = some (.int .i64 5) ∧ W.cell? ⟨gb, 1, none⟩ = some (.int .i64 s) ∧ W.cell? ⟨gb, 2, none⟩ = some (.int .i64 wh) ∧ W.cell? ⟨gb, 3, none⟩ = some (.int .i64 p) ∧ W.cell? ⟨gb, 4, none⟩ = some (.int .i64 co) ∧ W.cell? ⟨gb, 5, none⟩ = some (.int .i64 n) ∧ W.cell? ⟨gb, 6, none⟩ = some (.slice B nb d)) 9 (by kernel_rfl) (by kernel_rfl) (by kernel_rfl) ?_
    refine EG_take 0 (v := ?v28) (by simp only [List.getElem?_toArray, List.getElem?_cons_succ, List.getElem?_cons_zero]; rfl) (by kernel_rfl) (by kernel_rfl) (by decide) (fun _ _ _ h => h) (Or.inl ⟨by rfl, ?hy28⟩) (KEEP.out _ (ext_drew _)) ?rest28
    case hy28 => intro W hSW; (try dsimp only at hSW); obtain ⟨e0, e1, e2, e3, e4, e5, e6⟩ := hSW; go_simp <;> with_reducible rfl
    try simp only [Act.put, List.setIfInBounds_toArray, List.set_cons_zero, List.set_cons_succ]
    refine EG_take 1 (v := ?v29) (by simp only [List.getElem?_toArray, List.getElem?_cons_succ, List.getElem?_cons_zero]; rfl) (by kernel_rfl) (by kernel_rfl) (by decide) (fun _ _ _ h => h) (Or.inl ⟨by rfl, ?hy29⟩) (KEEP.out _ (ext_drew _)) ?rest29
    case hy29 => intro W hSW; (try dsimp only at hSW); obtain ⟨e0, e1, e2, e3, e4, e5, e6⟩ := hSW; go_simp <;> with_reducible rfl
    try simp only [Act.put, List.setIfInBounds_toArray, List.set_cons_zero, List.set_cons_succ]
    refine EG_take 2 (v := ?v30) (by simp only [List.getElem?_toArray, List.getElem?_cons_succ, List.getElem?_cons_zero]; rfl) (by kernel_rfl) (by kernel_rfl) (by decide) (fun _ _ _ h => h) (Or.inl ⟨by rfl, ?hy30⟩) (KEEP.out _ (ext_drew _)) ?rest30
    case hy30 => intro W hSW; (try dsimp only at hSW); obtain ⟨e0, e1, e2, e3, e4, e5, e6⟩ := hSW; go_simp <;> with_reducible rfl
    try simp only [Act.put, List.setIfInBounds_toArray, List.set_cons_zero, List.set_cons_succ]
    refine EG_take 4 (v := ?v31) (by simp only [List.getElem?_toArray, List.getElem?_cons_succ, List.getElem?_cons_zero]; rfl) (by kernel_rfl) (by kernel_rfl) (by decide) (fun _ _ _ h => h) (Or.inl ⟨by rfl, ?hy31⟩) (KEEP.out _ (ext_drew _)) ?rest31
    case hy31 => intro W hSW; (try dsimp only at hSW); obtain ⟨e0, e1, e2, e3, e4, e5, e6⟩ := hSW; go_simp <;> with_reducible rfl
    try simp only [Act.put, List.setIfInBounds_toArray, List.set_cons_zero, List.set_cons_succ]
    refine EG_take 5 (v := ?v32) (by simp only [List.getElem?_toArray, List.getElem?_cons_succ, List.getElem?_cons_zero]; rfl) (by kernel_rfl) (by kernel_rfl) (by decide) (fun _ _ _ h => h) (Or.inl ⟨by rfl, ?hy32⟩) (KEEP.out _ (ext_drew _)) ?rest32
    case hy32 => intro W hSW; (try dsimp only at hSW); obtain ⟨e0, e1, e2, e3, e4, e5, e6⟩ := hSW; go_simp <;> with_reducible rfl
    try simp only [Act.put, List.setIfInBounds_toArray, List.set_cons_zero, List.set_cons_succ]
    refine EG_one 3 (by kernel_rfl) (by simp only [List.getElem?_toArray, List.getElem?_cons_succ, List.getElem?_cons_zero]; rfl) (by decide) ?_
    intro K hK0
    have hK := hid hK0
    clear hK0
    go_simp
    refine (rf_put co 2 _ (by omega) (by omega)).mono ?_
    rintro r w5 ⟨O5, c5, rfl, o5, x5⟩
    have X5 : Hid (Ext w3 w5) := hid (ext_trans (ext_drew w3) x5)
    have R5 : Hid (Rd w5 O5 c5 (be co 2)) := hid (OwnG.rd o5)
    clear o5 x5
    go_simp
    refine hK.out _ _ (KEEP.out _ X5.out) ?_
    clear hK K
    try simp only [Act.put, List.setIfInBounds_toArray, List.set_cons_zero, List.set_cons_succ]
    refine EG_one 6 (by kernel_rfl) (by simp only [List.getElem?_toArray, List.getElem?_cons_succ, List.getElem?_cons_zero]; rfl) (by decide) ?_
    intro K hK0
    have hK := hid hK0
    clear hK0
    go_simp
    refine (rf_put n 2 _ (by omega) (by omega)).mono ?_
    rintro r w6 ⟨O6, c6, rfl, o6, x6⟩
    have X6 : Hid (Ext w3 w6) := hid (ext_trans X5.out x6)
    have R6 : Hid (Rd w6 O6 c6 (be n 2)) := hid (OwnG.rd o6)
    have R5 := hid (RdG.ext R5.out x6)
    clear o6 x6
    go_simp
    refine hK.out _ _ (KEEP.out _ X6.out) ?_
    clear hK K
    try simp only [Act.put, List.setIfInBounds_toArray, List.set_cons_zero, List.set_cons_succ]
    refine EG_one 7 (by kernel_rfl) (by simp only [List.getElem?_toArray, List.getElem?_cons_succ, List.getElem?_cons_zero]; rfl) (by decide) ?_
    intro K hK0
    have hK := hid hK0
    clear hK0
    go_simp
    have xw := X6.out
    have rk := RdG.ext RK.out xw
    have RJ : Hid (RdJ (w6.alloc (.cells #[.slice (some ⟨gb + 1, 0, none⟩) 1 1, .slice O5 2 c5, .slice O6 2 c6] 22)) (some ⟨w6.heap.size, 0, none⟩) 3 [(some ⟨gb + 1, 0, none⟩, 1, [K0]), (O5, c5, be co 2), (O6, c6, be n 2)]) := hid (by
      have h := rdj_new w6 [(some ⟨gb + 1, 0, none⟩, 1, [K0]), (O5, c5, be co 2), (O6, c6, be n 2)] (by simp) (by
        intro s hs
        simp only [List.mem_cons, List.not_mem_nil, or_false] at hs
        rcases hs with rfl | rfl | rfl
        · exact rk
        · exact R5.out
        · exact R6.out
        ) (by
        intro s hs
        have hbl := HNB.out
        simp only [List.mem_cons, List.not_mem_nil, or_false] at hs
        rcases hs with rfl | rfl | rfl <;> simp [be_len] <;> omega)
      exact h)
    have XB : Hid (Ext w3 (w6.alloc (.cells #[.slice (some ⟨gb + 1, 0, none⟩) 1 1, .slice O5 2 c5, .slice O6 2 c6] 22))) := hid (ext_trans xw (ext_alloc _ _))
    clear rk xw
    refine hK.out _ _ (KEEP.out _ XB.out) ?_
    clear hK K
    try simp only [Act.put, List.setIfInBounds_toArray, List.set_cons_zero, List.set_cons_succ]
    refine EG_one 8 (by kernel_rfl) (by simp only [List.getElem?_toArray, List.getElem?_cons_succ, List.getElem?_cons_zero]; rfl) (by decide) ?_
    intro K hK0
    have hK := hid hK0
    clear hK0
    go_simp
    refine (rf_join RJ.out ls (by rw [HLS.out]; simp [fieldsI, fieldsS, layF, SC.getF, F.size])).mono ?_
    rintro r w9 ⟨O9, c9, rfl, o9, x9⟩
    have O9H := hid o9
    have X9 : Hid (Ext w3 w9) := hid (ext_trans XB.out x9)
    have XS := hid XB.out.size
    clear o9 x9
    go_simp
    refine hK.out _ _ (KEEP.out _ X9.out) ?_
    clear hK K
    try simp only [Act.put, List.setIfInBounds_toArray, List.set_cons_zero, List.set_cons_succ]
    refine EG_end (by kernel_rfl) (by simp only [List.getElem?_toArray, List.getElem?_cons_succ, List.getElem?_cons_zero]; rfl) ?_
    intro K hK0
    have hK := hid hK0
    clear hK0
    go_simp
    refine hK.out _ _ ?_
    clear hK K
    refine NoPanic.normal ?_
    go_wp2
    go_ret
    exact ⟨O9, c9, rfl, OwnG.mono O9H.out (by have := XS.out; have := HS3.out; omega), FIN.out _ X9.out⟩
  by_cases q6 : k = 6
  · subst q6
    obtain ⟨k0, k1, k2, k3, k4, k5, k6⟩ := KEEP.out w3 (ext_refl _)
    go_wp2_with fail
    refine (rf_put n 2 _ (by omega) (by omega)).mono ?_
    rintro r w5 ⟨O5, c5, rfl, o5, x5⟩
    have X5 : Hid (Ext w3 w5) := hid (ext_trans (ext_refl w3) x5)
    have R5 : Hid (Rd w5 O5 c5 (be n 2)) := hid (OwnG.rd o5)
    clear o5 x5
    have xw := X5.out
    have rk := RdG.ext RK.out xw
    have RJ : Hid (RdJ (w5.alloc (.cells #[.slice (some ⟨gb + 1, 0, none⟩) 1 1, .slice O5 2 c5] 22)) (some ⟨w5.heap.size, 0, none⟩) 2 [(some ⟨gb + 1, 0, none⟩, 1, [K0]), (O5, c5, be n 2)]) := hid (by
      have h := rdj_new w5 [(some ⟨gb + 1, 0, none⟩, 1, [K0]), (O5, c5, be n 2)] (by simp) (by
        intro s hs
        simp only [List.mem_cons, List.not_mem_nil, or_false] at hs
        rcases hs with rfl | rfl
        · exact rk
        · exact R5.out
        ) (by
        intro s hs
        have hbl := HNB.out
        simp only [List.mem_cons, List.not_mem_nil, or_false] at hs
        rcases hs with rfl | rfl <;> simp [be_len] <;> omega)
      exact h)
    have XB : Hid (Ext w3 (w5.alloc (.cells #[.slice (some ⟨gb + 1, 0, none⟩) 1 1, .slice O5 2 c5] 22))) := hid (ext_trans xw (ext_alloc _ _))
    clear rk xw
    go_wp2_with fail
    refine (rf_join RJ.out ls (by rw [HLS.out]; simp [fieldsI, fieldsS, layF, SC.getF, F.size])).mono ?_
    rintro r w9 ⟨O9, c9, rfl, o9, x9⟩
    have O9H := hid o9
    have X9 : Hid (Ext w3 w9) := hid (ext_trans XB.out x9)
    have XS := hid XB.out.size
    clear o9 x9
    go_wp2_with fail
    go_ret
    exact ⟨O9, c9, rfl, OwnG.mono O9H.out (by have := XS.out; have := HS3.out; omega), FIN.out _ X9.out⟩
  by_cases q7 : k = 7
  · subst q7
    obtain ⟨k0, k1, k2, k3, k4, k5, k6⟩ := KEEP.out w3 (ext_refl _)
    go_wp2_with fail
    refine (rf_put n 2 _ (by omega) (by omega)).mono ?_
    rintro r w5 ⟨O5, c5, rfl, o5, x5⟩
    have X5 : Hid (Ext w3 w5) := hid (ext_trans (ext_refl w3) x5)
    have R5 : Hid (Rd w5 O5 c5 (be n 2)) := hid (OwnG.rd o5)
    clear o5 x5
    have xw := X5.out
    have rk := RdG.ext RK.out xw
    have RJ : Hid (RdJ (w5.alloc (.cells #[.slice (some ⟨gb + 1, 0, none⟩) 1 1, .slice O5 2 c5] 22)) (some ⟨w5.heap.size, 0, none⟩) 2 [(some ⟨gb + 1, 0, none⟩, 1, [K0]), (O5, c5, be n 2)]) := hid (by
      have h := rdj_new w5 [(some ⟨gb + 1, 0, none⟩, 1, [K0]), (O5, c5, be n 2)] (by simp) (by
        intro s hs
        simp only [List.mem_cons, List.not_mem_nil, or_false] at hs
        rcases hs with rfl | rfl
        · exact rk
        · exact R5.out
        ) (by
        intro s hs
        have hbl := HNB.out
        simp only [List.mem_cons, List.not_mem_nil, or_false] at hs
        rcases hs with rfl | rfl <;> simp [be_len] <;> omega)
      exact h)
    have XB : Hid (Ext w3 (w5.alloc (.cells #[.slice (some ⟨gb + 1, 0, none⟩) 1 1, .slice O5 2 c5] 22))) := hid (ext_trans xw (ext_alloc _ _))
    clear rk xw
    go_wp2_with fail
    refine (rf_join RJ.out ls (by rw [HLS.out]; simp [fieldsI, fieldsS, layF, SC.getF, F.size])).mono ?_
    rintro r w9 ⟨O9, c9, rfl, o9, x9⟩
    have O9H := hid o9
    have X9 : Hid (Ext w3 w9) := hid (ext_trans XB.out x9)
    have XS := hid XB.out.size
    clear o9 x9
    go_wp2_with fail
    go_ret
    exact ⟨O9, c9, rfl, OwnG.mono O9H.out (by have := XS.out; have := HS3.out; omega), FIN.out _ X9.out⟩
  by_cases q9 : k = 9
  · subst q9
    go_upto_region 19 with (fail)
    refine wp_region_noPanic ?_
    refine region_E (S := fun W => W.cell? ⟨gb, 0, none⟩ = some (.int .i64 9) ∧ W.cell? ⟨gb, 1, none⟩ = some (.int .i64 s) ∧ W.cell? ⟨gb, 2, none⟩ = some (.int .i64 wh) ∧ W.cell? ⟨gb, 3, none⟩ = some (.int .i64 p) ∧ W.cell? ⟨gb, 4, none⟩ = some (.int .i64 co) ∧ W.cell? ⟨gb, 5, none⟩ = some (.int .i64 n) ∧ W.cell? ⟨gb, 6, none⟩ = some (.slice B nb d)) 9 (by kernel_rfl) (by kernel_rfl) (by kernel_rfl) ?_
    refine EG_take 0 (v := ?v33) (by simp only [List.getElem?_toArray, List.getElem?_cons_succ, List.getElem?_cons_zero]; rfl) (by kernel_rfl) (by kernel_rfl) (by decide) (fun _ _ _ h => h) (Or.inl ⟨by rfl, ?hy33⟩) (KEEP.out _ (ext_drew _)) ?rest33
    case hy33 => intro W hSW; (try dsimp only at hSW); obtain ⟨e0, e1, e2, e3, e4, e5, e6⟩ := hSW; go_simp <;> with_reducible rfl
    try simp only [Act.put, List.setIfInBounds_toArray, List.set_cons_zero, List.set_cons_succ]
    refine EG_take 1 (v := ?v34) (by simp only [List.getElem?_toArray, List.getElem?_cons_succ, List.getElem?_cons_zero]; rfl) (by kernel_rfl) (by kernel_rfl) (by decide) (fun _ _ _ h => h) (Or.inl ⟨by rfl, ?hy34⟩) (KEEP.out _ (ext_drew _)) ?rest34
    case hy34 => intro W hSW; (try dsimp only at hSW); obtain ⟨e0, e1, e2, e3, e4, e5, e6⟩ := hSW; go_simp <;> with_reducible rfl
    try simp only [Act.put, List.setIfInBounds_toArray, List.set_cons_zero, List.set_cons_succ]
    refine EG_take 2 (v := ?v35) (by simp only [List.getElem?_toArray, List.getElem?_cons_succ, List.getElem?_cons_zero]; rfl) (by kernel_rfl) (by kernel_rfl) (by decide) (fun _ _ _ h => h) (Or.inl ⟨by rfl, ?hy35⟩) (KEEP.out _ (ext_drew _)) ?rest35
    case hy35 => intro W hSW; (try dsimp only at hSW); obtain ⟨e0, e1, e2, e3, e4, e5, e6⟩ := hSW; go_simp <;> with_reducible rfl
    try simp only [Act.put, List.setIfInBounds_toArray, List.set_cons_zero, List.set_cons_succ]
    refine EG_take 4 (v := ?v36) (by simp only [List.getElem?_toArray, List.getElem?_cons_succ, List.getElem?_cons_zero]; rfl) (by kernel_rfl) (by kernel_rfl) (by decide) (fun _ _ _ h => h) (Or.inl ⟨by rfl, ?hy36⟩) (KEEP.out _ (ext_drew _)) ?rest36
    case hy36 => intro W hSW; (try dsimp only at hSW); obtain ⟨e0, e1, e2, e3, e4, e5, e6⟩ := hSW; go_simp <;> with_reducible rfl
    try simp only [Act.put, List.setIfInBounds_toArray, List.set_cons_zero, List.set_cons_succ]
    refine EG_take 5 (v := ?v37) (by simp only [List.getElem?_toArray, List.getElem?_cons_succ, List.getElem?_cons_zero]; rfl) (by kernel_rfl) (by kernel_rfl) (by decide) (fun _ _ _ h => h) (Or.inl ⟨by rfl, ?hy37⟩) (KEEP.out _ (ext_drew _)) ?rest37
    case hy37 => intro W hSW; (try dsimp only at hSW); obtain ⟨e0, e1, e2, e3, e4, e5, e6⟩ := hSW; go_simp <;> with_reducible rfl
    try simp only [Act.put, List.setIfInBounds_toArray, List.set_cons_zero, List.set_cons_succ]
    refine EG_take 6 (v := ?v38) (by simp only [List.getElem?_toArray, List.getElem?_cons_succ, List.getElem?_cons_zero]; rfl) (by kernel_rfl) (by kernel_rfl) (by decide) (fun _ _ _ h => h) (Or.inl ⟨by rfl, ?hy38⟩) (KEEP.out _ (ext_drew _)) ?rest38
    case hy38 => intro W hSW; (try dsimp only at hSW); obtain ⟨e0, e1, e2, e3, e4, e5, e6⟩ := hSW; go_simp <;> with_reducible rfl
    try simp only [Act.put, List.setIfInBounds_toArray, List.set_cons_zero, List.set_cons_succ]
    refine EG_one 3 (by kernel_rfl) (by simp only [List.getElem?_toArray, List.getElem?_cons_succ, List.getElem?_cons_zero]; rfl) (by decide) ?_
    intro K hK0
    have hK := hid hK0
    clear hK0
    go_simp
    refine (rf_put n 2 _ (by omega) (by omega)).mono ?_
    rintro r w5 ⟨O5, c5, rfl, o5, x5⟩
    have X5 : Hid (Ext w3 w5) := hid (ext_trans (ext_drew w3) x5)
    have R5 : Hid (Rd w5 O5 c5 (be n 2)) := hid (OwnG.rd o5)
    clear o5 x5
    go_simp
    refine hK.out _ _ (KEEP.out _ X5.out) ?_
    clear hK K
    try simp only [Act.put, List.setIfInBounds_toArray, List.set_cons_zero, List.set_cons_succ]
    refine EG_one 7 (by kernel_rfl) (by simp only [List.getElem?_toArray, List.getElem?_cons_succ, List.getElem?_cons_zero]; rfl) (by decide) ?_
    intro K hK0
    have hK := hid hK0
    clear hK0
    go_simp
    have xw := X5.out
    have rk := RdG.ext RK.out xw
    have r3 := RdG.ext R3.out xw
    have rb := RdG.ext RB.out xw
    have RJ : Hid (RdJ (w5.alloc (.cells #[.slice (some ⟨gb + 1, 0, none⟩) 1 1, .slice O5 2 c5, .slice O3 2 c3, .slice B nb d] 22)) (some ⟨w5.heap.size, 0, none⟩) 4 [(some ⟨gb + 1, 0, none⟩, 1, [K0]), (O5, c5, be n 2), (O3, c3, be (nb : Int) 2), (B, d, b)]) := hid (by
      have h := rdj_new w5 [(some ⟨gb + 1, 0, none⟩, 1, [K0]), (O5, c5, be n 2), (O3, c3, be (nb : Int) 2), (B, d, b)] (by simp) (by
        intro s hs
        simp only [List.mem_cons, List.not_mem_nil, or_false] at hs
        rcases hs with rfl | rfl | rfl | rfl
        · exact rk
        · exact R5.out
        · exact r3
        · exact rb
        ) (by
        intro s hs
        have hbl := HNB.out
        simp only [List.mem_cons, List.not_mem_nil, or_false] at hs
        rcases hs with rfl | rfl | rfl | rfl <;> simp [be_len] <;> omega)
      simp only [List.map_cons, List.map_nil, sbv, HNB.out] at h
      exact h)
    have XB : Hid (Ext w3 (w5.alloc (.cells #[.slice (some ⟨gb + 1, 0, none⟩) 1 1, .slice O5 2 c5, .slice O3 2 c3, .slice B nb d] 22))) := hid (ext_trans xw (ext_alloc _ _))
    clear rk xw r3 rb
    refine hK.out _ _ (KEEP.out _ XB.out) ?_
    clear hK K
    try simp only [Act.put, List.setIfInBounds_toArray, List.set_cons_zero, List.set_cons_succ]
    refine EG_one 8 (by kernel_rfl) (by simp only [List.getElem?_toArray, List.getElem?_cons_succ, List.getElem?_cons_zero]; rfl) (by decide) ?_
    intro K hK0
    have hK := hid hK0
    clear hK0
    go_simp
    refine (rf_join RJ.out ls (by rw [HLS.out]; simp [fieldsI, fieldsS, layF, SC.getF, F.size, HNB.out])).mono ?_
    rintro r w9 ⟨O9, c9, rfl, o9, x9⟩
    have O9H := hid o9
    have X9 : Hid (Ext w3 w9) := hid (ext_trans XB.out x9)
    have XS := hid XB.out.size
    clear o9 x9
    go_simp
    refine hK.out _ _ (KEEP.out _ X9.out) ?_
    clear hK K
    try simp only [Act.put, List.setIfInBounds_toArray, List.set_cons_zero, List.set_cons_succ]
    refine EG_end (by kernel_rfl) (by simp only [List.getElem?_toArray, List.getElem?_cons_succ, List.getElem?_cons_zero]; rfl) ?_
    intro K hK0
    have hK := hid hK0
    clear hK0
    go_simp
    refine hK.out _ _ ?_
    clear hK K
    refine NoPanic.normal ?_
    go_wp2
    go_ret
    exact ⟨O9, c9, rfl, OwnG.mono O9H.out (by have := XS.out; have := HS3.out; omega), FIN.out _ X9.out⟩
  have hl : ls = [K0] := by
    rw [HLS.out]
    have : fieldsI k = [] := by
      unfold fieldsI
      split
      · rename_i h
        obtain rfl : k = 10 := by omega
        rfl
      · rfl
    rw [this]
    rfl
  subst hl
  go_wp2_with fail
  go_ret
  exact ⟨some ⟨gb + 1, 0, none⟩, 1, rfl, OwnG.mono OK.out (by have := HGB.out; omega), FIN.out _ (ext_refl _)⟩
end Go.Proofs.Ytholjbnggnfapaa

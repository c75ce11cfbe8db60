import Derived.Test.YtcddfenhkljpeaaChcBi
/- Layer 23: the document's Sweep. (Printed by gen_chcbj.py.) -/
namespace Go.Proofs.Ytcddfenhkljpeaa
open Go.BK Go.BK.CH Go.BK.NM Go.RowKit Go.Maps
set_option linter.unusedVariables false
set_option linter.unusedSimpArgs false
theorem pos_sub {T T0 : List TRow} (hT : ∀ t ∈ T, t ∈ T0) (h0 : 0 < T.length) : 0 < T0.length := by
  cases T with
  | nil => simp at h0
  | cons t T => exact List.length_pos_of_mem (hT t (by simp))
/-- The cache while things go, from the end on. -/
def SwC (w0 : World) (g : Nat) (most tm : Int) (T : List TRow) (A : Option Addr) (w : World) : Prop :=
  ∃ A6 c6, RefC w g most tm A6 c6 T ∧ Shy (fun k => k = g) w0 w ∧ ∀ k, blk A6 = some k → blk A = some k ∨ w0.heap.size ≤ k
theorem SwC.rs {V : Nat → Prop} {w0 w : World} {g : Nat} {most tm : Int} {T T0 : List TRow} {A : Option Addr} (h : SwC w0 g most tm T A w) (hV : V g ∧ (0 < T0.length → ∀ k, blk A = some k → V k) ∧ ∀ t ∈ T0, 0 < (setOf t.e.x).data.length → ∀ k, blk t.A = some k → V k) (hT : ∀ t ∈ T, t ∈ T0) {L : List Ent} (hL : T.map (·.e) = L) :
    RsV (More V w0) w g most ⟨tm, L⟩ ∧ Shy (fun k => k = g) w0 w := by
  obtain ⟨A6, c6, h1, h2, h3⟩ := h
  refine ⟨⟨A6, c6, T, h1, hL, .inl hV.1, fun h0 k hk => ?_, fun t ht h0 k hk => .inl (hV.2.2 t (hT t ht) h0 k hk)⟩, h2⟩
  rcases h3 k hk with h | h
  · exact .inl (hV.2.1 (pos_sub hT h0) k h)
  · exact .inr h
theorem SwC.ext {w0 w w' : World} {g : Nat} {most tm : Int} {T : List TRow} {A : Option Addr} (h : SwC w0 g most tm T A w) (x : Ext w w') : SwC w0 g most tm T A w' := by
  obtain ⟨A6, c6, h1, h2, h3⟩ := h
  exact ⟨A6, c6, h1.ext x, h2.ext x, h3⟩
def SwpRel (w0 : World) (g : Nat) (most tm : Int) (T : List TRow) (A : Option Addr) (p : TRow → Bool) (nv iv : Value) (w : World) : Prop :=
  ∃ (j : Nat) (u v : Int), j ≤ T.length ∧ v = (j : Int) - 1 ∧ u = ((T.length - (sweptT p T j).length : Nat) : Int) ∧ nv = .int .i64 u ∧ iv = .int .i64 v ∧ SwC w0 g most tm (sweptT p T j) A w
theorem sweep_ent (T : List TRow) (tm : Int) : (sweptT (fun t => decide (t.e.x.till ≤ tm)) T 0).map (·.e) = goneO (T.map (·.e)) tm := by
  rw [swept_none]
  unfold goneO
  rw [List.filter_map]
  rfl
theorem swept_out_len (p : TRow → Bool) {T : List TRow} {j : Nat} (hj : j < T.length) (h : p (T.getD j tr0) = true) : (sweptT p T (j + 1)).length = (sweptT p T j).length + 1 := by
  rw [← swept_out p hj h, List.length_append, List.length_take, List.length_drop]
  have := (swept_at p hj).1
  omega
section
variable {w w' : World} {g : Nat} {most now : Int} {A : Option Addr} {c : Nat} {T : List TRow}
set_option maxHeartbeats 4000000 in
set_option maxRecDepth 100000 in
theorem rsweep_late (at_ : Int) (hat : ¬ inTime at_) : Calls Try.prog 26 #[pt g, .int .i64 at_] w fun e w' => e = .returned (.int .i64 0) ∧ w = w' := by
  have CWI := fun W => rtime_in at_ W
  rw [decide_eq_false hat] at CWI
  have CWI := hid CWI
  simp only [pt]
  go_enter Try.func26, Try.ntmps26
  go_wp2_with fail
  refine (CWI.out _).mono ?_
  rintro e _ ⟨rfl, rfl⟩
  go_wp2_with fail
  go_ret
  exact ⟨rfl, rfl⟩
set_option maxHeartbeats 4000000 in
set_option maxRecDepth 100000 in
theorem rsweep_in (h : RefC w g most now A c T) {V : Nat → Prop} {at_ : Int} (hat : inTime at_) (hT : T.length ≤ 4096)
    (hV : V g ∧ (0 < T.length → ∀ k, blk A = some k → V k) ∧ ∀ t ∈ T, 0 < (setOf t.e.x).data.length → ∀ k, blk t.A = some k → V k) :
    Calls Try.prog 26 #[pt g, .int .i64 at_] w fun e w' => e = .returned (.int .i64 ((T.length - (goneO (T.map (·.e)) (tmax now at_)).length : Nat) : Int)) ∧ RsV (More V w) w' g most ⟨tmax now at_, goneO (T.map (·.e)) (tmax now at_)⟩ ∧ Shy (fun k => k = g) w w' := by
  have CWI := fun W => rtime_in at_ W
  rw [decide_eq_true hat] at CWI
  have CWI := hid CWI
  obtain ⟨tm, htm⟩ : ∃ tm, (if now < at_ then at_ else now) = tm := ⟨_, rfl⟩
  have htm2 : tmax now at_ = tm := by unfold tmax; exact htm
  rw [htm2]
  have HE := hid (sweep_ent T tm)
  obtain ⟨GL, hGL⟩ : ∃ GL, goneO (T.map (·.e)) tm = GL := ⟨_, rfl⟩
  rw [hGL] at HE ⊢
  obtain ⟨p, hp⟩ : ∃ p : TRow → Bool, p = fun t => decide (t.e.x.till ≤ tm) := ⟨_, rfl⟩
  rw [← hp] at HE
  have HPV : Hid (∀ t, p t = decide (t.e.x.till ≤ tm)) := hid (fun t => by rw [hp])
  obtain ⟨n, hn⟩ : ∃ n, T.length = n := ⟨_, rfl⟩
  rw [hn] at hT ⊢
  have HN := hid hn
  have HVV := hid hV
  have H0 := hid h
  have c2 : w.cell? ⟨g, 2, none⟩ = some (.int .i64 now) := h.b.cell 2
  have cf := h.b.frozen
  have h3 := h.time tm
  have s3 := set_shy g 2 (.int .i64 tm) w
  obtain ⟨w2, hw2⟩ : ∃ w2, w.setCell ⟨g, 2, none⟩ (.int .i64 tm) = w2 := ⟨_, rfl⟩
  rw [hw2] at h3 s3
  have HW2 := hid hw2
  have H3 := hid h3
  have S3 : Hid (Shy (fun k => k = g) w w2) := hid s3
  obtain ⟨v0, hv0⟩ : ∃ v0, v0 = (n : Int) - 1 := ⟨_, rfl⟩
  have w1 : IntKind.i64.wrap ((n : Int) - 1) = v0 := by rw [hv0]; exact IntWalk.i64_in _ (by omega)
  have HV0 := hid hv0
  simp only [pt]
  clear h h3 s3 hw2 hn hp hGL hV htm2 hv0
  go_enter Try.func26, Try.ntmps26
  go_wp2_with fail
  refine (CWI.out _).mono ?_
  rintro e _ ⟨rfl, rfl⟩
  go_upto_region 4 with (fail)
  rw [HW2.out]
  clear c2 cf htm
  have c1 : w2.cell? ⟨g, 1, none⟩ = some (.slice A n c) := by have := H3.out.b.cell 1; rw [HN.out] at this; exact this
  have hcap : n ≤ c := by have := H3.out.r.cap; rw [HN.out] at this; exact this.1
  go_wp2_with fail
  clear c1 hcap w1
  go_loopw [5, 6] (fun nv iv wr => SwpRel w g most tm T A p nv iv wr) (fun nv iv _ => (intOf iv + 1).toNat)
  case atStart => exact ⟨n, 0, v0, by rw [HN.out]; exact Nat.le_refl _, HV0.out, by rw [← HN.out, swept_all]; simp, rfl, rfl, A, c, by rw [← HN.out, swept_all]; exact H3.out, S3.out, fun k hk => .inl hk⟩
  case round =>
    obtain ⟨j, u, v, hj, hv, hu, rfl, rfl, hs⟩ := hrel
    rw [HN.out] at hj hu
    rcases j with _ | j
    · obtain rfl : v = -1 := by omega
      have HS := hid hs
      have HU := hid hu
      clear hs hu hv
      go_wp2_with fail
      go_ret
      have e := (HS.out.rs HVV.out (swept_sub p T 0) HE.out)
      have e2 : (sweptT p T 0).length = GL.length := by rw [← HE.out, List.length_map]
      exact ⟨ret_int (by rw [HU.out, e2]), e.1, e.2⟩
    · obtain rfl : v = (j : Int) := by omega
      have hjn : j < T.length := by rw [HN.out]; omega
      have HAT := hid (swept_at p hjn)
      have HLN := hid (swept_len p T (j + 1))
      obtain ⟨A6, c6, h6, s6, l6⟩ := hs
      obtain ⟨m, hm⟩ : ∃ m, (sweptT p T (j + 1)).length = m := ⟨_, rfl⟩
      rw [hm] at HAT HLN
      obtain ⟨b, o, rfl, hb, hc⟩ := h6.at_ (by rw [hm]; have := HAT.out.1; omega)
      obtain ⟨t, htm, htd, ha⟩ := hc j (by rw [hm]; exact HAT.out.1)
      rw [HAT.out.2] at htd
      obtain ⟨tl, htl⟩ : ∃ tl, t.e.x.till = tl := ⟨_, rfl⟩
      have a2 := ha 2 _ rfl
      rw [htl] at a2
      have cg : wr.cell? ⟨g, 1, none⟩ = some (.slice (some ⟨b, o, none⟩) m c6) := by have := h6.b.cell 1; rw [hm] at this; exact this
      have KEEP : Hid (∀ W, Ext wr W → W.cell? ⟨g, 1, none⟩ = some (.slice (some ⟨b, o, none⟩) m c6) ∧ W.cell? ⟨g, 2, none⟩ = some (.int .i64 tm) ∧ W.cell? ⟨b, o + j * 10 + 2, none⟩ = some (.int .i64 tl)) := hid (fun W y => ⟨(y.cell (p := ⟨g, 1, none⟩) h6.b.lt).trans cg, (h6.b.ext y).cell 2, (y.cell (p := ⟨b, _, none⟩) hb).trans a2⟩)
      have hcap := h6.r.cap.1
      rw [hm] at hcap
      have hm9 : m ≤ 4096 := by have := HLN.out; rw [HN.out] at this; omega
      have i1 : (0 : Int) ≤ (j : Int) := by omega
      have i2 : j < m := HAT.out.1
      obtain ⟨v3, hv3⟩ : ∃ v3, v3 = (j : Int) - 1 := ⟨_, rfl⟩
      have w1 : IntKind.i64.wrap ((j : Int) - 1) = v3 := by rw [hv3]; exact IntWalk.i64_in _ (by omega)
      have HV3 := hid hv3
      have HPT : Hid (p (T.getD j tr0) = decide (tl ≤ tm)) := hid (by rw [HPV.out, htd, htl])
      have H6 := hid h6
      have S6 := hid s6
      have L6 := hid l6
      have HU := hid hu
      have HJN := hid hjn
      have HM := hid hm
      have HJ := hid hj
      clear h6 s6 l6 hu hv hv3 hjn hm htl htd htm ha hc hb a2 cg hj
      go_upto_region 8 with (fail)
      by_cases q0 : tl ≤ tm
      · have HQ := hid (show decide (tl ≤ tm) = true from by simpa using q0)
        have q1 := HQ.out
        clear q0
        refine wp_region_noPanic ?_
        refine region_E (S := fun W => W.cell? ⟨g, 1, none⟩ = some (.slice (some ⟨b, o, none⟩) m c6) ∧ W.cell? ⟨g, 2, none⟩ = some (.int .i64 tm) ∧ W.cell? ⟨b, o + j * 10 + 2, none⟩ = some (.int .i64 tl)) 12 (by kernel_rfl) (by kernel_rfl) (by kernel_rfl) ?_
        refine EG_take 0 (v := ?v1) (by simp only [lga, lgb, lgc]; rfl) (by kernel_rfl) (by kernel_rfl) (by decide) (fun _ _ _ h => h) (Or.inl ⟨by rfl, ?hy1⟩) (KEEP.out _ (ext_drew _)) ?rest1
        case hy1 => intro W hSW; (try dsimp only at hSW); obtain ⟨e0, e1, e2⟩ := hSW; go_simp <;> with_reducible rfl
        try simp only [Act.put, lsa, lsb, lsc]
        refine EG_take 1 (v := ?v2) (by simp only [lga, lgb, lgc]; rfl) (by kernel_rfl) (by kernel_rfl) (by decide) (fun _ _ _ h => h) (Or.inl ⟨by rfl, ?hy2⟩) (KEEP.out _ (ext_drew _)) ?rest2
        case hy2 => intro W hSW; (try dsimp only at hSW); obtain ⟨e0, e1, e2⟩ := hSW; go_simp <;> with_reducible rfl
        try simp only [Act.put, lsa, lsb, lsc]
        refine EG_take 2 (v := ?v3) (by simp only [lga, lgb, lgc]; rfl) (by kernel_rfl) (by kernel_rfl) (by decide) (fun _ _ _ h => h) (Or.inl ⟨by rfl, ?hy3⟩) (KEEP.out _ (ext_drew _)) ?rest3
        case hy3 => intro W hSW; (try dsimp only at hSW); obtain ⟨e0, e1, e2⟩ := hSW; go_simp <;> with_reducible rfl
        try simp only [Act.put, lsa, lsb, lsc]
        refine EG_take 3 (v := ?v4) (by simp only [lga, lgb, lgc]; rfl) (by kernel_rfl) (by kernel_rfl) (by decide) (fun _ _ _ h => h) (Or.inl ⟨by rfl, ?hy4⟩) (KEEP.out _ (ext_drew _)) ?rest4
        case hy4 => intro W hSW; (try dsimp only at hSW); obtain ⟨e0, e1, e2⟩ := hSW; go_simp <;> with_reducible rfl
        try simp only [Act.put, lsa, lsb, lsc]
        refine EG_take 4 (v := ?v5) (by simp only [lga, lgb, lgc]; rfl) (by kernel_rfl) (by kernel_rfl) (by decide) (fun _ _ _ h => h) (Or.inl ⟨by rfl, ?hy5⟩) (KEEP.out _ (ext_drew _)) ?rest5
        case hy5 => intro W hSW; (try dsimp only at hSW); obtain ⟨e0, e1, e2⟩ := hSW; go_simp <;> with_reducible rfl
        try simp only [Act.put, lsa, lsb, lsc]
        refine EG_take 5 (v := ?v6) (by simp only [lga, lgb, lgc]; rfl) (by kernel_rfl) (by kernel_rfl) (by decide) (fun _ _ _ h => h) (Or.inl ⟨by rfl, ?hy6⟩) (KEEP.out _ (ext_drew _)) ?rest6
        case hy6 => intro W hSW; (try dsimp only at hSW); obtain ⟨e0, e1, e2⟩ := hSW; go_simp <;> with_reducible rfl
        try simp only [Act.put, lsa, lsb, lsc]
        refine EG_take 6 (v := ?v7) (by simp only [lga, lgb, lgc]; rfl) (by kernel_rfl) (by kernel_rfl) (by decide) (fun _ _ _ h => h) (Or.inl ⟨by rfl, ?hy7⟩) (KEEP.out _ (ext_drew _)) ?rest7
        case hy7 => intro W hSW; (try dsimp only at hSW); obtain ⟨e0, e1, e2⟩ := hSW; go_simp <;> with_reducible rfl
        try simp only [Act.put, lsa, lsb, lsc]
        refine EG_take 7 (v := ?v8) (by simp only [lga, lgb, lgc]; rfl) (by kernel_rfl) (by kernel_rfl) (by decide) (fun _ _ _ h => h) (Or.inl ⟨by rfl, ?hy8⟩) (KEEP.out _ (ext_drew _)) ?rest8
        case hy8 => intro W hSW; (try dsimp only at hSW); obtain ⟨e0, e1, e2⟩ := hSW; go_simp <;> with_reducible rfl
        try simp only [Act.put, lsa, lsb, lsc]
        refine EG_take 8 (v := ?v9) (by simp only [lga, lgb, lgc]; rfl) (by kernel_rfl) (by kernel_rfl) (by decide) (fun _ _ _ h => h) (Or.inl ⟨by rfl, ?hy9⟩) (KEEP.out _ (ext_drew _)) ?rest9
        case hy9 => intro W hSW; (try dsimp only at hSW); obtain ⟨e0, e1, e2⟩ := hSW; go_simp <;> with_reducible rfl
        try simp only [Act.put, lsa, lsb, lsc]
        refine EG_take 9 (v := ?v10) (by simp only [lga, lgb, lgc]; rfl) (by kernel_rfl) (by kernel_rfl) (by decide) (fun _ _ _ h => h) (Or.inl ⟨by rfl, ?hy10⟩) (KEEP.out _ (ext_drew _)) ?rest10
        case hy10 => intro W hSW; (try dsimp only at hSW); obtain ⟨e0, e1, e2⟩ := hSW; go_simp <;> with_reducible rfl
        try simp only [Act.put, lsa, lsb, lsc]
        refine EG_take 10 (v := ?v11) (by simp only [lga, lgb, lgc]; rfl) (by kernel_rfl) (by kernel_rfl) (by decide) (fun _ _ _ h => h) (Or.inl ⟨by rfl, ?hy11⟩) (KEEP.out _ (ext_drew _)) ?rest11
        case hy11 => intro W hSW; (try dsimp only at hSW); obtain ⟨e0, e1, e2⟩ := hSW; go_simp <;> with_reducible rfl
        try simp only [Act.put, lsa, lsb, lsc]
        refine EG_take 11 (v := ?v12) (by simp only [lga, lgb, lgc]; rfl) (by kernel_rfl) (by kernel_rfl) (by decide) (fun _ _ _ h => h) (Or.inl ⟨by rfl, ?hy12⟩) (KEEP.out _ (ext_drew _)) ?rest12
        case hy12 => intro W hSW; (try dsimp only at hSW); obtain ⟨e0, e1, e2⟩ := hSW; go_simp <;> with_reducible rfl
        try simp only [Act.put, lsa, lsb, lsc]
        refine EG_end (by kernel_rfl) (by simp only [lga, lgb, lgc]; rfl) ?_
        intro K hK0
        have hK := hid hK0
        clear hK0
        go_simp
        refine hK.out _ _ ?_
        clear hK K
        refine NoPanic.normal ?_
        clear q1
        go_wp2_with fail
        have YD := hid (ext_drew wr)
        have ro := rout (H6.out.ext YD.out) (i := j) (by rw [HM.out]; exact i2) (by rw [HM.out]; omega)
        rw [swept_out p HJN.out (HPT.out.trans HQ.out)] at ro
        have hl := swept_out_len p HJN.out (HPT.out.trans HQ.out)
        rw [HM.out] at hl
        obtain ⟨u3, hu3⟩ : ∃ u3, u3 = u + 1 := ⟨_, rfl⟩
        have w3 : IntKind.i64.wrap (u + 1) = u3 := by rw [hu3]; exact IntWalk.i64_in _ (by have h1 := HU.out; omega)
        have HU3 := hid hu3
        have HL := hid hl
        clear hu3 hl
        refine ro.mono ?_
        rintro e w8 ⟨A8, c8, rfl, H8, S8, L8⟩
        have REL := hid (show SwpRel w g most tm T A p (.int .i64 u3) (.int .i64 v3) w8 from ⟨j, u3, v3, by have := HJN.out; omega, HV3.out, by
          have h1 := HU3.out
          have h2 := HU.out
          have h3 := HL.out
          have h4 := HLN.out
          rw [HM.out] at h2
          rw [HN.out] at h4 ⊢
          omega, rfl, rfl, A8, c8, H8, (S6.out.ext YD.out).trans S8 (fun k _ e => e), fun k hk => .inr (by have h1 := L8 k hk; have h2 := (S6.out.ext YD.out).size; omega)⟩)
        clear H8 S8 L8
        go_wp2_with fail
        go_roundw
        case rel => exact REL.out
        case measure => have := HV3.out; simp [intOf]; omega
      · have HQ := hid (show decide (tl ≤ tm) = false from by simpa using q0)
        have q1 := HQ.out
        clear q0
        refine wp_region_noPanic ?_
        refine region_E (S := fun W => W.cell? ⟨g, 1, none⟩ = some (.slice (some ⟨b, o, none⟩) m c6) ∧ W.cell? ⟨g, 2, none⟩ = some (.int .i64 tm) ∧ W.cell? ⟨b, o + j * 10 + 2, none⟩ = some (.int .i64 tl)) 12 (by kernel_rfl) (by kernel_rfl) (by kernel_rfl) ?_
        refine EG_take 0 (v := ?v13) (by simp only [lga, lgb, lgc]; rfl) (by kernel_rfl) (by kernel_rfl) (by decide) (fun _ _ _ h => h) (Or.inl ⟨by rfl, ?hy13⟩) (KEEP.out _ (ext_drew _)) ?rest13
        case hy13 => intro W hSW; (try dsimp only at hSW); obtain ⟨e0, e1, e2⟩ := hSW; go_simp <;> with_reducible rfl
        try simp only [Act.put, lsa, lsb, lsc]
        refine EG_take 1 (v := ?v14) (by simp only [lga, lgb, lgc]; rfl) (by kernel_rfl) (by kernel_rfl) (by decide) (fun _ _ _ h => h) (Or.inl ⟨by rfl, ?hy14⟩) (KEEP.out _ (ext_drew _)) ?rest14
        case hy14 => intro W hSW; (try dsimp only at hSW); obtain ⟨e0, e1, e2⟩ := hSW; go_simp <;> with_reducible rfl
        try simp only [Act.put, lsa, lsb, lsc]
        refine EG_take 2 (v := ?v15) (by simp only [lga, lgb, lgc]; rfl) (by kernel_rfl) (by kernel_rfl) (by decide) (fun _ _ _ h => h) (Or.inl ⟨by rfl, ?hy15⟩) (KEEP.out _ (ext_drew _)) ?rest15
        case hy15 => intro W hSW; (try dsimp only at hSW); obtain ⟨e0, e1, e2⟩ := hSW; go_simp <;> with_reducible rfl
        try simp only [Act.put, lsa, lsb, lsc]
        refine EG_take 3 (v := ?v16) (by simp only [lga, lgb, lgc]; rfl) (by kernel_rfl) (by kernel_rfl) (by decide) (fun _ _ _ h => h) (Or.inl ⟨by rfl, ?hy16⟩) (KEEP.out _ (ext_drew _)) ?rest16
        case hy16 => intro W hSW; (try dsimp only at hSW); obtain ⟨e0, e1, e2⟩ := hSW; go_simp <;> with_reducible rfl
        try simp only [Act.put, lsa, lsb, lsc]
        refine EG_take 4 (v := ?v17) (by simp only [lga, lgb, lgc]; rfl) (by kernel_rfl) (by kernel_rfl) (by decide) (fun _ _ _ h => h) (Or.inl ⟨by rfl, ?hy17⟩) (KEEP.out _ (ext_drew _)) ?rest17
        case hy17 => intro W hSW; (try dsimp only at hSW); obtain ⟨e0, e1, e2⟩ := hSW; go_simp <;> with_reducible rfl
        try simp only [Act.put, lsa, lsb, lsc]
        refine EG_take 5 (v := ?v18) (by simp only [lga, lgb, lgc]; rfl) (by kernel_rfl) (by kernel_rfl) (by decide) (fun _ _ _ h => h) (Or.inl ⟨by rfl, ?hy18⟩) (KEEP.out _ (ext_drew _)) ?rest18
        case hy18 => intro W hSW; (try dsimp only at hSW); obtain ⟨e0, e1, e2⟩ := hSW; go_simp <;> with_reducible rfl
        try simp only [Act.put, lsa, lsb, lsc]
        refine EG_take 6 (v := ?v19) (by simp only [lga, lgb, lgc]; rfl) (by kernel_rfl) (by kernel_rfl) (by decide) (fun _ _ _ h => h) (Or.inl ⟨by rfl, ?hy19⟩) (KEEP.out _ (ext_drew _)) ?rest19
        case hy19 => intro W hSW; (try dsimp only at hSW); obtain ⟨e0, e1, e2⟩ := hSW; go_simp <;> with_reducible rfl
        try simp only [Act.put, lsa, lsb, lsc]
        refine EG_take 7 (v := ?v20) (by simp only [lga, lgb, lgc]; rfl) (by kernel_rfl) (by kernel_rfl) (by decide) (fun _ _ _ h => h) (Or.inl ⟨by rfl, ?hy20⟩) (KEEP.out _ (ext_drew _)) ?rest20
        case hy20 => intro W hSW; (try dsimp only at hSW); obtain ⟨e0, e1, e2⟩ := hSW; go_simp <;> with_reducible rfl
        try simp only [Act.put, lsa, lsb, lsc]
        refine EG_take 8 (v := ?v21) (by simp only [lga, lgb, lgc]; rfl) (by kernel_rfl) (by kernel_rfl) (by decide) (fun _ _ _ h => h) (Or.inl ⟨by rfl, ?hy21⟩) (KEEP.out _ (ext_drew _)) ?rest21
        case hy21 => intro W hSW; (try dsimp only at hSW); obtain ⟨e0, e1, e2⟩ := hSW; go_simp <;> with_reducible rfl
        try simp only [Act.put, lsa, lsb, lsc]
        refine EG_take 9 (v := ?v22) (by simp only [lga, lgb, lgc]; rfl) (by kernel_rfl) (by kernel_rfl) (by decide) (fun _ _ _ h => h) (Or.inl ⟨by rfl, ?hy22⟩) (KEEP.out _ (ext_drew _)) ?rest22
        case hy22 => intro W hSW; (try dsimp only at hSW); obtain ⟨e0, e1, e2⟩ := hSW; go_simp <;> with_reducible rfl
        try simp only [Act.put, lsa, lsb, lsc]
        refine EG_take 10 (v := ?v23) (by simp only [lga, lgb, lgc]; rfl) (by kernel_rfl) (by kernel_rfl) (by decide) (fun _ _ _ h => h) (Or.inl ⟨by rfl, ?hy23⟩) (KEEP.out _ (ext_drew _)) ?rest23
        case hy23 => intro W hSW; (try dsimp only at hSW); obtain ⟨e0, e1, e2⟩ := hSW; go_simp <;> with_reducible rfl
        try simp only [Act.put, lsa, lsb, lsc]
        refine EG_take 11 (v := ?v24) (by simp only [lga, lgb, lgc]; rfl) (by kernel_rfl) (by kernel_rfl) (by decide) (fun _ _ _ h => h) (Or.inl ⟨by rfl, ?hy24⟩) (KEEP.out _ (ext_drew _)) ?rest24
        case hy24 => intro W hSW; (try dsimp only at hSW); obtain ⟨e0, e1, e2⟩ := hSW; go_simp <;> with_reducible rfl
        try simp only [Act.put, lsa, lsb, lsc]
        refine EG_end (by kernel_rfl) (by simp only [lga, lgb, lgc]; rfl) ?_
        intro K hK0
        have hK := hid hK0
        clear hK0
        go_simp
        refine hK.out _ _ ?_
        clear hK K
        refine NoPanic.normal ?_
        clear q1
        have YD := hid (ext_drew wr)
        have REL0 : SwpRel w g most tm T A p (.int .i64 u) (.int .i64 v3) wr.drew := by
          have e := swept_stay p HJN.out (HPT.out.trans HQ.out)
          refine ⟨j, u, v3, by have := HJN.out; omega, HV3.out, by rw [← e, HN.out]; exact HU.out, rfl, rfl, some ⟨b, o, none⟩, c6, by rw [← e]; exact H6.out.ext YD.out, S6.out.ext YD.out, L6.out⟩
        have REL := hid REL0
        clear REL0
        go_wp2_with fail
        go_roundw
        case rel => exact REL.out
        case measure => have := HV3.out; simp [intOf]; omega
end
end Go.Proofs.Ytcddfenhkljpeaa
/- Layer 23: the document's PutNone. (Printed by gen_chcbk.py.) -/
namespace Go.Proofs.Ytcddfenhkljpeaa
open Go.BK Go.BK.CH Go.BK.NM Go.RowKit Go.Maps
set_option linter.unusedVariables false
set_option linter.unusedSimpArgs false
def RpnRel (w0 : World) (g : Nat) (most tm kind : Int) (T : List TRow) (A : Option Addr) (p : TRow → Bool) (iv : Value) (w : World) : Prop :=
  ∃ (j : Nat) (v : Int), j ≤ T.length ∧ (kind ≠ 0 → j = T.length) ∧ v = (j : Int) - 1 ∧ iv = .int .i64 v ∧ SwC w0 g most tm (sweptT p T j) A w
def goneT (T : List TRow) (low : List UInt8) (kind : Int) : List TRow := if kind = 0 then sweptT (fun t => decide (t.e.n = low)) T 0 else T
theorem goneT_sub (T : List TRow) (low : List UInt8) (kind : Int) : ∀ t ∈ goneT T low kind, t ∈ T := by
  unfold goneT
  split
  · exact swept_sub _ T 0
  · exact fun t h => h
theorem goneT_len (T : List TRow) (low : List UInt8) (kind : Int) : (goneT T low kind).length ≤ T.length := by
  unfold goneT
  split
  · exact swept_len _ T 0
  · exact Nat.le_refl _
theorem goneT_ent (T : List TRow) (low : List UInt8) (kind : Int) : (goneT T low kind).map (·.e) = if kind = 0 then goneE (T.map (·.e)) low else T.map (·.e) := by
  unfold goneT
  split
  · rw [swept_none]
    unfold goneE
    rw [List.filter_map]
    rfl
  · rfl
theorem goneE_diff {L : List Ent} (low : List UInt8) (h : DiffE L) : DiffE (goneE L low) := List.Pairwise.filter _ h
theorem putNone_ent {T : List TRow} (hd : DiffE (T.map (·.e))) (most now ttl at_ : Int) (n : List UInt8) (kind : Int) {r : TRow} (hr : r.e = noneE (lower n) kind (tmax now at_ + ttl)) :
    putNoneS most ⟨now, T.map (·.e)⟩ n kind ttl at_ = ⟨tmax now at_, (putT most (goneT T (lower n) kind) r).map (·.e)⟩ := by
  have e := goneT_ent T (lower n) kind
  have hd2 : DiffE ((goneT T (lower n) kind).map (·.e)) := by
    rw [e]
    split
    · exact goneE_diff _ hd
    · exact hd
  unfold putNoneS
  rw [putT_ent hd2, e, hr]
section
variable {w w' : World} {g : Nat} {most now : Int} {A : Option Addr} {c : Nat} {T : List TRow}
set_option maxHeartbeats 4000000 in
set_option maxRecDepth 100000 in
theorem rpn_good (h : RefC w g most now A c T) {n : List UInt8} {kind ttl at_ : Int} (hn : n.length ≤ 2000000) {V : Nat → Prop} (hb : checkS n = 0 ∧ ¬ kind < 0 ∧ ¬ 65535 < kind ∧ ¬ ttl < 0 ∧ ¬ 2147483648 ≤ ttl ∧ ttl ≠ 0) (hat : inTime at_) (hst : StOk most ⟨now, T.map (·.e)⟩)
    (hV : V g ∧ (0 < T.length → ∀ k, blk A = some k → V k) ∧ ∀ t ∈ T, 0 < (setOf t.e.x).data.length → ∀ k, blk t.A = some k → V k) :
    Calls Try.prog 22 #[pt g, .string (str n), .int .i64 kind, .int .i64 ttl, .int .i64 at_] w fun e w' => e = .returned (.tuple #[.bool true, .int .i64 0]) ∧ RsV (More V w) w' g most (putNoneS most ⟨now, T.map (·.e)⟩ n kind ttl at_) ∧ Shy (fun k => k = g) w w' := by
  have htr := tmax_range hst.2.1 hat
  have HPN := hid (show ∀ r : TRow, r.e = noneE (lower n) kind (tmax now at_ + ttl) → putNoneS most ⟨now, T.map (·.e)⟩ n kind ttl at_ = ⟨tmax now at_, (putT most (goneT T (lower n) kind) r).map (·.e)⟩ from fun r hr => putNone_ent hst.2.2.2.2 most now ttl at_ n kind hr)
  obtain ⟨PS, hPS⟩ : ∃ PS, putNoneS most ⟨now, T.map (·.e)⟩ n kind ttl at_ = PS := ⟨_, rfl⟩
  rw [hPS] at HPN ⊢
  have HVV := hid hV
  have CLO := hid (fun W => ref_lower n W hn)
  have HLOW := hid (show (lower n).length ≤ 2000000 from by rw [lower_len]; exact hn)
  have HLL := hid (lower_lower n)
  obtain ⟨low, hlow⟩ : ∃ low, lower n = low := ⟨_, rfl⟩
  rw [hlow] at CLO HLOW HPN HLL
  have hTl : T.length ≤ 4096 := by have h1 := hst.2.2.1; have h2 := hst.1; simp only [List.length_map] at h1; omega
  have hm9 := hst.1
  obtain ⟨p, hp⟩ : ∃ p : TRow → Bool, p = fun t => decide (t.e.n = low) := ⟨_, rfl⟩
  have HPV : Hid (∀ t, p t = decide (t.e.n = low)) := hid (fun t => by rw [hp])
  have HGT : Hid (goneT T low kind = if kind = 0 then sweptT p T 0 else T) := hid (by rw [hp]; rfl)
  obtain ⟨nn, hnn⟩ : ∃ nn, T.length = nn := ⟨_, rfl⟩
  rw [hnn] at hTl
  have HN := hid hnn
  clear hp hnn hlow hPS hV hst
  have CWI := fun W => rtime_in at_ W
  rw [decide_eq_true hat] at CWI
  have CWI := hid CWI
  obtain ⟨tm, htm⟩ : ∃ tm, (if now < at_ then at_ else now) = tm := ⟨_, rfl⟩
  have htm2 : tmax now at_ = tm := by unfold tmax; exact htm
  rw [htm2] at htr HPN
  have HM0 := hid h
  have CCH := ref_check n w hn
  obtain ⟨q, hq⟩ : ∃ q, checkS n = q := ⟨_, rfl⟩
  rw [hq] at CCH hb
  have CCH := hid CCH
  have b1 : (q == 0) = true := by simp [hb.1]
  have b2 : (q != 0) = false := by simp [hb.1]
  have b3 : decide (kind < 0) = false := by have := hb.2.1; simp; omega
  have b4 : decide (65535 < kind) = false := by have := hb.2.2.1; simp; omega
  have b5 : decide (ttl < 0) = false := by have := hb.2.2.2.1; simp; omega
  have b6 : decide (2147483647 < ttl) = false := by have := hb.2.2.2.2.1; simp; omega
  have b7 : (ttl == 0) = false := by simpa using hb.2.2.2.2.2
  have NUM : Hid ((0 ≤ tm ∧ tm ≤ 1099511627776) ∧ (0 < ttl ∧ ttl < 2147483648) ∧ (1 ≤ most ∧ most ≤ 4096) ∧ nn ≤ 4096) := hid ⟨htr, ⟨by have := hb.2.2.2.2.2; have := hb.2.2.2.1; omega, by have := hb.2.2.2.2.1; omega⟩, hm9, hTl⟩
  clear hb htm2 hTl htr hm9
  simp only [pt]
  clear h hq hn
  go_enter Try.func22, Try.ntmps22
  go_wp2_with fail
  refine CCH.out.mono ?_
  rintro e w1 ⟨rfl, x1⟩
  have H2 := hid (HM0.out.ext x1)
  have X1 := hid x1
  clear x1
  go_wp2_with fail
  refine (CWI.out _).mono ?_
  rintro e _ ⟨rfl, rfl⟩
  have c2 : w1.cell? ⟨g, 2, none⟩ = some (.int .i64 now) := H2.out.b.cell 2
  have cf := H2.out.b.frozen
  have h3 := H2.out.time tm
  have s3 := set_shy g 2 (.int .i64 tm) w1
  obtain ⟨w2, hw2⟩ : ∃ w2, w1.setCell ⟨g, 2, none⟩ (.int .i64 tm) = w2 := ⟨_, rfl⟩
  rw [hw2] at h3 s3
  have HW2 := hid hw2
  have H3 := hid h3
  have S3 : Hid (Shy (fun k => k = g) w w2) := hid ((Shy.of_ext X1.out).trans s3 (fun k _ e => e))
  clear h3 s3 hw2
  go_upto_region 4 with (fail)
  rw [HW2.out]
  clear c2 cf htm
  go_wp2_with fail
  refine (CLO.out _).mono ?_
  rintro e w3 ⟨rfl, x3⟩
  have H3' := hid (H3.out.ext x3)
  have S3' := hid (S3.out.ext x3)
  clear x3 H3 S3
  have c1 : w3.cell? ⟨g, 1, none⟩ = some (.slice A nn c) := by have := H3'.out.b.cell 1; rw [HN.out] at this; exact this
  have hcap : nn ≤ c := by have := H3'.out.r.cap; rw [HN.out] at this; exact this.1
  have hn9 : nn ≤ 4096 := NUM.out.2.2.2
  obtain ⟨v0, hv0⟩ : ∃ v0, v0 = (nn : Int) - 1 := ⟨_, rfl⟩
  have w1' : IntKind.i64.wrap ((nn : Int) - 1) = v0 := by rw [hv0]; exact IntWalk.i64_in _ (by omega)
  have HV0 := hid hv0
  clear hv0
  obtain ⟨te, hte⟩ : ∃ te, te = tm + ttl := ⟨_, rfl⟩
  have HTE := hid hte
  have v2 : Hid (IntKind.i64.wrap (tm + ttl) = te) := hid (by rw [hte]; exact IntWalk.i64_in _ (by have := NUM.out; omega))
  clear hte
  go_wp2_with fail
  clear c1 hcap w1'
  go_loopw [13] (fun iv wr => RpnRel w g most tm kind T A p iv wr) (fun iv _ => (intOf iv + 1).toNat)
  case atStart => exact ⟨nn, v0, by rw [HN.out]; exact Nat.le_refl _, fun _ => HN.out.symm, HV0.out, rfl, A, c, by rw [← HN.out, swept_all]; exact H3'.out, S3'.out, fun k hk => .inl hk⟩
  case round =>
    obtain ⟨j, v, hj, hjk, hv, rfl, hs⟩ := hrel
    rw [HN.out] at hj hjk
    rcases j with _ | j
    · obtain rfl : v = -1 := by omega
      have e : sweptT p T 0 = goneT T low kind := by
        rw [HGT.out]
        split
        · rfl
        · rename_i hk
          have h1 := hjk hk
          have h2 : T = [] := List.length_eq_zero_iff.1 (by rw [HN.out]; exact h1.symm)
          rw [h2]
          rfl
      rw [e] at hs
      obtain ⟨A6, c6, h6, s6, l6⟩ := hs
      have RP := rput h6 (r := ⟨⟨low, kind, .none te⟩, none, 0⟩) (RdG.none_ _ _) (fun h => absurd h (Nat.lt_irrefl 0)) HLL.out HLOW.out (by have h1 := goneT_len T low kind; rw [HN.out] at h1; omega) NUM.out.2.2.1
      simp only [cellsT_none] at RP
      have RP := hid RP
      have c2 : wr.cell? ⟨g, 2, none⟩ = some (.int .i64 tm) := h6.b.cell 2
      have v2' := v2.out
      have S6 := hid s6
      have L6 := hid l6
      clear h6 s6 l6 hv hj hjk e
      go_wp2_with fail
      refine RP.out.mono ?_
      rintro e w8 ⟨A8, c8, rfl, H8, S8, L8⟩
      go_wp2_with fail
      go_ret2
      have hp := HPN.out ⟨⟨low, kind, .none te⟩, none, 0⟩ (by unfold noneE; rw [HTE.out])
      rw [hp]
      refine ⟨rfl, ⟨A8, c8, _, H8, rfl, .inl HVV.out.1, fun _ k hk => .inr ?_, fun t ht h0 k hk => ?_⟩, S6.out.trans S8 (fun k _ e => e)⟩
      · have h1 := L8 k hk
        have h2 := S6.out.size
        omega
      · rcases putT_sub _ _ _ t ht with h | rfl
        · exact .inl (HVV.out.2.2 t (goneT_sub _ _ _ t h) h0 k hk)
        · cases hk
    · obtain rfl : v = (j : Int) := by omega
      have i1 : (0 : Int) ≤ (j : Int) := by omega
      by_cases hk0 : kind = 0
      rotate_left
      · have e : sweptT p T (j + 1) = goneT T low kind := by
          rw [HGT.out, if_neg hk0, hjk hk0, ← HN.out, swept_all]
        rw [e] at hs
        have k1 : (kind == 0) = false := by simpa using hk0
        clear hk0
        obtain ⟨A6, c6, h6, s6, l6⟩ := hs
        have RP := rput h6 (r := ⟨⟨low, kind, .none te⟩, none, 0⟩) (RdG.none_ _ _) (fun h => absurd h (Nat.lt_irrefl 0)) HLL.out HLOW.out (by have h1 := goneT_len T low kind; rw [HN.out] at h1; omega) NUM.out.2.2.1
        simp only [cellsT_none] at RP
        have RP := hid RP
        have c2 : wr.cell? ⟨g, 2, none⟩ = some (.int .i64 tm) := h6.b.cell 2
        have v2' := v2.out
        have S6 := hid s6
        have L6 := hid l6
        clear h6 s6 l6 hv hj hjk e
        go_wp2_with fail
        refine RP.out.mono ?_
        rintro e w8 ⟨A8, c8, rfl, H8, S8, L8⟩
        go_wp2_with fail
        go_ret2
        have hp := HPN.out ⟨⟨low, kind, .none te⟩, none, 0⟩ (by unfold noneE; rw [HTE.out])
        rw [hp]
        refine ⟨rfl, ⟨A8, c8, _, H8, rfl, .inl HVV.out.1, fun _ k hk => .inr ?_, fun t ht h0 k hk => ?_⟩, S6.out.trans S8 (fun k _ e => e)⟩
        · have h1 := L8 k hk
          have h2 := S6.out.size
          omega
        · rcases putT_sub _ _ _ t ht with h | rfl
          · exact .inl (HVV.out.2.2 t (goneT_sub _ _ _ t h) h0 k hk)
          · cases hk
      · have k1 : (kind == 0) = true := by simpa using hk0
        have HK0 := hid hk0
        clear hk0
        have hjn : j < T.length := by rw [HN.out]; omega
        have HAT := hid (swept_at p hjn)
        have HLN := hid (swept_len p T (j + 1))
        obtain ⟨A6, c6, h6, s6, l6⟩ := hs
        obtain ⟨m, hm⟩ : ∃ m, (sweptT p T (j + 1)).length = m := ⟨_, rfl⟩
        rw [hm] at HAT HLN
        obtain ⟨b, o, rfl, hb, hc⟩ := h6.at_ (by rw [hm]; have := HAT.out.1; omega)
        obtain ⟨t, htm, htd, ha⟩ := hc j (by rw [hm]; exact HAT.out.1)
        rw [HAT.out.2] at htd
        obtain ⟨tn, htn⟩ : ∃ tn, t.e.n = tn := ⟨_, rfl⟩
        have a0 := ha 0 _ rfl
        rw [htn] at a0
        simp only [Nat.add_zero] at a0
        have cg : wr.cell? ⟨g, 1, none⟩ = some (.slice (some ⟨b, o, none⟩) m c6) := by have := h6.b.cell 1; rw [hm] at this; exact this
        have hcap := h6.r.cap.1
        rw [hm] at hcap
        have hm9 : m ≤ 4096 := by have := HLN.out; rw [HN.out] at this; omega
        have i2 : j < m := HAT.out.1
        obtain ⟨v3, hv3⟩ : ∃ v3, v3 = (j : Int) - 1 := ⟨_, rfl⟩
        have w1' : IntKind.i64.wrap ((j : Int) - 1) = v3 := by rw [hv3]; exact IntWalk.i64_in _ (by omega)
        have HV3 := hid hv3
        have HPT : Hid (p (T.getD j tr0) = decide (tn = low)) := hid (by rw [HPV.out, htd, htn])
        have H6 := hid h6
        have S6 := hid s6
        have L6 := hid l6
        have HJN := hid hjn
        have HM := hid hm
        clear h6 s6 l6 hv hv3 hjn hm htn htd htm ha hc hb hjk hj
        by_cases q0 : tn = low
        · have HQ := hid (show decide (tn = low) = true from by simpa using q0)
          have q1 : (tn == low) = true := by simpa using q0
          clear q0
          go_wp2_with fail
          clear q1 a0 cg
          have ro := rout H6.out (i := j) (by rw [HM.out]; exact i2) (by rw [HM.out]; omega)
          rw [swept_out p HJN.out (HPT.out.trans HQ.out)] at ro
          refine ro.mono ?_
          rintro e w8 ⟨A8, c8, rfl, H8, S8, L8⟩
          have REL := hid (show RpnRel w g most tm kind T A p (.int .i64 v3) w8 from ⟨j, v3, by have := HJN.out; omega, fun hk => absurd HK0.out hk, HV3.out, rfl, A8, c8, H8, S6.out.trans S8 (fun k _ e => e), fun k hk => .inr (by have h1 := L8 k hk; have h2 := S6.out.size; omega)⟩)
          clear H8 S8 L8
          go_wp2_with fail
          go_roundw
          case rel => exact REL.out
          case measure => have := HV3.out; simp [intOf]; omega
        · have HQ := hid (show decide (tn = low) = false from by simpa using q0)
          have q1 : (tn == low) = false := by simpa using q0
          clear q0
          have REL0 : RpnRel w g most tm kind T A p (.int .i64 v3) wr := by
            have e := swept_stay p HJN.out (HPT.out.trans HQ.out)
            exact ⟨j, v3, by have := HJN.out; omega, fun hk => absurd HK0.out hk, HV3.out, rfl, some ⟨b, o, none⟩, c6, by rw [← e]; exact H6.out, S6.out, L6.out⟩
          have REL := hid REL0
          clear REL0
          go_wp2_with fail
          go_roundw
          case rel => exact REL.out
          case measure => have := HV3.out; simp [intOf]; omega
end
end Go.Proofs.Ytcddfenhkljpeaa
/- Layer 23: the document's cache as contracts; both caches side by side. -/
namespace Go.Proofs.Ytcddfenhkljpeaa
open Go.BK Go.BK.CH Go.BK.NM Go.RowKit Go.Maps
set_option linter.unusedVariables false
set_option linter.unusedSimpArgs false
section
variable {V V' W : Nat → Prop} {w w' : World} {g : Nat} {most : Int} {s : StC}
theorem RsV.lt (h : RsV V w g most s) : g < w.heap.size := by
  obtain ⟨A, c, T, h1, _⟩ := h
  exact h1.b.lt
theorem RsV.mono (h : RsV V w g most s) (hV : ∀ k, k < w.heap.size → V k → V' k) : RsV V' w g most s := by
  obtain ⟨A, c, T, h1, h2, h3, h4, h5⟩ := h
  refine ⟨A, c, T, h1, h2, hV g h1.b.lt h3, fun h0 k hk => ?_, fun t ht h0 k hk => ?_⟩
  · obtain ⟨b, e1, e2⟩ := h1.r.lt h0
    rw [hk] at e1
    obtain rfl := Option.some.inj e1
    exact hV _ e2 (h4 h0 _ hk)
  · obtain ⟨b, e1, e2⟩ := (h1.d t ht).lt h0
    rw [hk] at e1
    obtain rfl := Option.some.inj e1
    exact hV _ e2 (h5 t ht h0 _ hk)
theorem RsV.shy (h : RsV V w g most s) (hs : Shy W w w') (hV : ∀ k, k < w.heap.size → V k → ¬ W k) : RsV V w' g most s := by
  obtain ⟨A, c, T, h1, h2, h3, h4, h5⟩ := h
  refine ⟨A, c, T, h1.off hs (hV g h1.b.lt h3) (fun h0 k hk => ?_) (fun t ht h0 k hk => ?_), h2, h3, h4, h5⟩
  · obtain ⟨b, e1, e2⟩ := h1.r.lt h0
    rw [hk] at e1
    obtain rfl := Option.some.inj e1
    exact hV _ e2 (h4 h0 _ hk)
  · obtain ⟨b, e1, e2⟩ := (h1.d t ht).lt h0
    rw [hk] at e1
    obtain rfl := Option.some.inj e1
    exact hV _ e2 (h5 t ht h0 _ hk)
theorem RsV.ext (h : RsV V w g most s) (x : Ext w w') : RsV V w' g most s := h.shy (W := fun _ => False) (Shy.of_ext x) fun _ _ _ h => h
theorem RsV.len (h : RsV V w g most s) : ∃ A c, w.cell? ⟨g, 1, none⟩ = some (.slice A s.L.length c) ∧ s.L.length ≤ c ∧ c ≤ maxLen := by
  obtain ⟨A, c, T, h1, h2, _⟩ := h
  have e : s.L.length = T.length := by rw [← h2, List.length_map]
  rw [e]
  exact ⟨A, c, h1.b.cell 1, h1.r.cap⟩
theorem r_new (m : Int) (w : World) (h : 1 ≤ m ∧ m ≤ 4096) : Calls Try.prog 21 #[.int .i64 m] w fun e w' => e = .returned (.tuple #[pt w.heap.size, .int .i64 0]) ∧ RsV (fun k => w.heap.size ≤ k) w' w.heap.size m ⟨0, []⟩ ∧ Ext w w' := by
  refine (rnew_good m w h).mono ?_
  rintro e w' ⟨rfl, h1, x⟩
  exact ⟨rfl, ⟨none, 0, [], h1, rfl, Nat.le_refl _, by simp, by simp⟩, x⟩
theorem r_more (h : RsV V w' g most s) : RsV (More V w) w' g most s := h.mono fun k _ u => .inl u
theorem r_put (h : RsV V w g most s) (hst : StOk most s) {x : SetS} {A : Option Addr} {c : Nat} (hA : RdG w 1 A x.data.length c (tvs x.data)) (hn : x.nm.length ≤ 2000000) (hd : ∀ d ∈ x.data, d.length ≤ 65535) {rank at_ : Int} (hAg : 1 ≤ x.data.length → ∀ k, blk A = some k → ¬ V k) :
    Calls Try.prog 27 #[pt g, .agg #[.string (str x.nm), .int .i64 x.ty, .int .i64 x.cl, .int .i64 x.ttl, .slice A x.data.length c], .int .i64 rank, .int .i64 at_] w fun e w' =>
      e = .returned (.tuple #[.bool (putG most s x rank at_).2.1, .int .i64 (putG most s x rank at_).2.2]) ∧ RsV (More V w) w' g most (putG most s x rank at_).1 ∧ Shy (fun k => k = g) w w' := by
  obtain ⟨now, L⟩ := s
  have h00 := h
  obtain ⟨A0, c0, T, h1, rfl, hv⟩ := h
  by_cases hb : putBad x rank at_
  · have eg : putG most ⟨now, T.map (·.e)⟩ x rank at_ = (⟨now, T.map (·.e)⟩, false, 2) := by unfold putG; rw [if_pos hb]
    rw [eg]
    have fin : ∀ e w', e = Ending.returned (.tuple #[.bool false, .int .i64 2]) ∧ Ext w w' → e = .returned (.tuple #[.bool false, .int .i64 2]) ∧ RsV (More V w) w' g most ⟨now, T.map (·.e)⟩ ∧ Shy (fun k => k = g) w w' := by
      rintro e w' ⟨rfl, x⟩
      exact ⟨rfl, r_more (h00.ext x), Shy.of_ext x⟩
    by_cases b1 : chkS x = 0
    rotate_left
    · exact (rps_bad1 h1 hA hn hd b1).mono fin
    by_cases b2 : x.cl = 1
    rotate_left
    · exact (rps_bad2 h1 hA hn hd ⟨b1, b2⟩).mono fin
    by_cases b3 : x.ty = 0
    · exact (rps_bad3 h1 hA hn hd ⟨b1, b2, b3⟩).mono fin
    by_cases b4 : rank < 1
    · exact (rps_bad4 h1 hA hn hd ⟨b1, b2, b3, b4⟩).mono fin
    by_cases b5 : 3 < rank
    · exact (rps_bad5 h1 hA hn hd ⟨b1, b2, b3, b4, b5⟩).mono fin
    refine (rps_bad6 h1 hA hn hd ⟨b1, b2, b3, b4, b5, fun b6 => ?_⟩).mono fin
    rcases hb with e | e | e | e | e | e
    · exact e b1
    · exact e b2
    · exact b3 e
    · exact b4 e
    · exact b5 e
    · exact e b6
  · obtain ⟨b1, b2, b3, b4, b5, b6⟩ := putBad_no hb
    by_cases ht : x.ttl = 0
    · have eg : putG most ⟨now, T.map (·.e)⟩ x rank at_ = (⟨tmax now at_, T.map (·.e)⟩, false, 0) := by unfold putG; rw [if_neg hb, if_pos ht]
      rw [eg]
      refine (rps_zero h1 hA hn hd ⟨b1, b2, b3, b4, b5, ht⟩ b6).mono ?_
      rintro e w' ⟨rfl, h2, hs⟩
      exact ⟨rfl, r_more ⟨A0, c0, T, h2, rfl, hv⟩, hs⟩
    · have eg : putG most ⟨now, T.map (·.e)⟩ x rank at_ = ((putS most ⟨now, T.map (·.e)⟩ x rank at_).1, (putS most ⟨now, T.map (·.e)⟩ x rank at_).2, 0) := by unfold putG; rw [if_neg hb, if_neg ht]
      rw [eg]
      exact rps_good h1 hA hn hd (fun k hk e => hAg (chk_ok b1 hn hd).2.2.2.2.2.1.1 k hk (by rw [e]; exact hv.1)) ⟨b1, b2, b3, b4, b5, ht⟩ b6 hst hv
theorem r_none (h : RsV V w g most s) (hst : StOk most s) {n : List UInt8} {kind ttl at_ : Int} (hn : n.length ≤ 2000000) :
    Calls Try.prog 22 #[pt g, .string (str n), .int .i64 kind, .int .i64 ttl, .int .i64 at_] w fun e w' =>
      e = .returned (.tuple #[.bool (noneG most s n kind ttl at_).2.1, .int .i64 (noneG most s n kind ttl at_).2.2]) ∧ RsV (More V w) w' g most (noneG most s n kind ttl at_).1 ∧ Shy (fun k => k = g) w w' := by
  obtain ⟨now, L⟩ := s
  have h00 := h
  obtain ⟨A0, c0, T, h1, rfl, hv⟩ := h
  by_cases hb : noneBad n kind ttl at_
  · have eg : noneG most ⟨now, T.map (·.e)⟩ n kind ttl at_ = (⟨now, T.map (·.e)⟩, false, 2) := by unfold noneG; rw [if_pos hb]
    rw [eg]
    have fin : ∀ e w', e = Ending.returned (.tuple #[.bool false, .int .i64 2]) ∧ Ext w w' → e = .returned (.tuple #[.bool false, .int .i64 2]) ∧ RsV (More V w) w' g most ⟨now, T.map (·.e)⟩ ∧ Shy (fun k => k = g) w w' := by
      rintro e w' ⟨rfl, x⟩
      exact ⟨rfl, r_more (h00.ext x), Shy.of_ext x⟩
    by_cases b1 : checkS n = 0
    rotate_left
    · exact (rpn_bad1 h1 hn b1).mono fin
    by_cases b2 : kind < 0
    · exact (rpn_bad2 h1 hn ⟨b1, b2⟩).mono fin
    by_cases b3 : 65535 < kind
    · exact (rpn_bad3 h1 hn ⟨b1, b2, b3⟩).mono fin
    by_cases b4 : ttl < 0
    · exact (rpn_bad4 h1 hn ⟨b1, b2, b3, b4⟩).mono fin
    by_cases b5 : 2147483648 ≤ ttl
    · exact (rpn_bad5 h1 hn ⟨b1, b2, b3, b4, b5⟩).mono fin
    refine (rpn_bad6 h1 hn ⟨b1, b2, b3, b4, b5, fun b6 => ?_⟩).mono fin
    rcases hb with e | e | e | e | e | e
    · exact e b1
    · exact b2 e
    · exact b3 e
    · exact b4 e
    · exact b5 e
    · exact e b6
  · obtain ⟨b1, b2, b3, b4, b5, b6⟩ := noneBad_no hb
    by_cases ht : ttl = 0
    · have eg : noneG most ⟨now, T.map (·.e)⟩ n kind ttl at_ = (⟨tmax now at_, T.map (·.e)⟩, false, 0) := by unfold noneG; rw [if_neg hb, if_pos ht]
      rw [eg]
      refine (rpn_zero h1 hn ⟨b1, b2, b3, ht⟩ b6).mono ?_
      rintro e w' ⟨rfl, h2, hs⟩
      exact ⟨rfl, r_more ⟨A0, c0, T, h2, rfl, hv⟩, hs⟩
    · have eg : noneG most ⟨now, T.map (·.e)⟩ n kind ttl at_ = (putNoneS most ⟨now, T.map (·.e)⟩ n kind ttl at_, true, 0) := by unfold noneG; rw [if_neg hb, if_neg ht]
      rw [eg]
      exact rpn_good h1 hn ⟨b1, b2, b3, b4, b5, ht⟩ b6 hst hv
theorem st_len (hst : StOk most s) : s.L.length ≤ 4096 := by have h1 := hst.2.2.1; have h2 := hst.1; omega
theorem r_sweep (h : RsV V w g most s) (hst : StOk most s) (at_ : Int) :
    Calls Try.prog 26 #[pt g, .int .i64 at_] w fun e w' => e = .returned (.int .i64 ((sweepG s at_).2 : Nat)) ∧ RsV (More V w) w' g most (sweepG s at_).1 ∧ Shy (fun k => k = g) w w' := by
  have hl := st_len hst
  obtain ⟨now, L⟩ := s
  have h00 := h
  obtain ⟨A0, c0, T, h1, rfl, hv⟩ := h
  by_cases hat : inTime at_
  · have eg : sweepG ⟨now, T.map (·.e)⟩ at_ = (⟨tmax now at_, goneO (T.map (·.e)) (tmax now at_)⟩, (T.map (·.e)).length - (goneO (T.map (·.e)) (tmax now at_)).length) := by unfold sweepG; rw [if_pos hat]
    rw [eg]
    simp only [List.length_map] at hl ⊢
    exact rsweep_in h1 hat hl hv
  · have eg : sweepG ⟨now, T.map (·.e)⟩ at_ = (⟨now, T.map (·.e)⟩, 0) := by unfold sweepG; rw [if_neg hat]
    rw [eg]
    refine (rsweep_late (g := g) (w := w) at_ hat).mono ?_
    rintro e w' ⟨rfl, rfl⟩
    exact ⟨rfl, r_more h00, Shy.refl _⟩
/-- What At tells: below 0 where there is none. -/
def AtD (s : StC) (n : List UInt8) (kind : Int) (w w' : World) (e : Ending) : Prop := ∃ v : Int, e = .returned (.int .i64 v) ∧ decide (0 ≤ v) = hasS s n kind ∧ Ext w w'
theorem r_at (h : RsV V w g most s) {n : List UInt8} {kind : Int} (hn : n.length ≤ 2000000) :
    Calls Try.prog 29 #[pt g, .string (str n), .int .i64 kind] w fun e w' => AtD s n kind w w' e := by
  obtain ⟨A0, c0, T, h1, h2, hv⟩ := h
  refine (at_in h1 hn).mono ?_
  rintro e w' ⟨rfl, x⟩
  refine ⟨_, rfl, ?_, x⟩
  unfold hasS
  rw [← h2]
  rcases idxT_cases T (lower n) kind with ⟨e1, e2⟩ | ⟨i, hi, e1, e2⟩
  · rw [e1, findE_none (by
      intro e he
      obtain ⟨t, ht, rfl⟩ := List.mem_map.1 he
      exact e2 t ht)]
    rfl
  · rw [e1]
    have : (findE (T.map (·.e)) (lower n) kind).isSome = true := by
      unfold findE
      rw [List.find?_isSome]
      exact ⟨(T.getD i tr0).e, List.mem_map.2 ⟨_, getT_mem hi, rfl⟩, by simpa using e2⟩
    rw [this]
    simp [idxV]
end
/-! ### both side by side -/
def OutL (l : List Nat) (base : Nat) (k : Nat) : Prop := base ≤ k ∧ k ∉ l
/-- Both caches, apart from each other, from what is below base and from the blocks of l. -/
def DuoL (l : List Nat) (base : Nat) (w : World) (gc gw : Nat) (most : Int) (s t : StC) : Prop :=
  ∃ U V, Qc U w gc most s ∧ RsV V w gw most t ∧ StOk most t ∧ (∀ k, U k → base ≤ k ∧ k < w.heap.size ∧ k ∉ l ∧ ¬ V k) ∧ (∀ k, V k → base ≤ k ∧ k < w.heap.size ∧ k ∉ l)
section
variable {l l' : List Nat} {base : Nat} {w w' : World} {gc gw : Nat} {most : Int} {s t : StC}
theorem DuoL.ext (d : DuoL l base w gc gw most s t) (x : Ext w w') (hl : ∀ k ∈ l', k ∈ l ∨ w.heap.size ≤ k) : DuoL l' base w' gc gw most s t := by
  obtain ⟨U, V, h1, h2, h3, h4, h5⟩ := d
  have hz := x.size
  refine ⟨U, V, h1.ext x, h2.ext x, h3, fun k hk => ?_, fun k hk => ?_⟩
  · obtain ⟨a, b, c, e⟩ := h4 k hk
    refine ⟨a, by omega, fun hm => ?_, e⟩
    rcases hl k hm with h | h
    · exact c h
    · omega
  · obtain ⟨a, b, c⟩ := h5 k hk
    refine ⟨a, by omega, fun hm => ?_⟩
    rcases hl k hm with h | h
    · exact c h
    · omega
/-- A store into what is not theirs. -/
theorem DuoL.off (d : DuoL l base w gc gw most s t) {W : Nat → Prop} (x : Shy W w w') (hW : ∀ k, k < w.heap.size → W k → k ∈ l) : DuoL l base w' gc gw most s t := by
  obtain ⟨U, V, h1, h2, h3, h4, h5⟩ := d
  have hz := x.size
  refine ⟨U, V, h1.shy x (fun k hk u h => (h4 k u).2.2.1 (hW k hk h)), h2.shy x (fun k hk u h => (h5 k u).2.2 (hW k hk h)), h3, fun k hk => ?_, fun k hk => ?_⟩
  · obtain ⟨a, b, c, e⟩ := h4 k hk
    exact ⟨a, by omega, c, e⟩
  · obtain ⟨a, b, c⟩ := h5 k hk
    exact ⟨a, by omega, c⟩
/-- The program's cache has taken a step; what is new may be its own. -/
theorem duo_c {s' : StC} {U V : Nat → Prop} (hb : base ≤ w.heap.size) (hl : ∀ k ∈ l, k < w.heap.size) (h2 : RsV V w gw most t) (h3 : StOk most t) (h4 : ∀ k, U k → base ≤ k ∧ k < w.heap.size ∧ k ∉ l ∧ ¬ V k) (h5 : ∀ k, V k → base ≤ k ∧ k < w.heap.size ∧ k ∉ l)
    (q : Qc (More U w) w' gc most s') (x : Shy U w w') : DuoL l base w' gc gw most s' t ∧ Shy (OutL l base) w w' := by
  have hz := x.size
  refine ⟨⟨fun k => More U w k ∧ k < w'.heap.size, V, q.mono (fun k hk u => ⟨u, hk⟩), h2.shy x (fun k _ v u => (h4 k u).2.2.2 v), h3, fun k hk => ?_, fun k hk => ?_⟩, x.mono (fun k _ u => ⟨(h4 k u).1, (h4 k u).2.2.1⟩)⟩
  · obtain ⟨h | h, hk2⟩ := hk
    · obtain ⟨a, b, c, e⟩ := h4 k h
      exact ⟨a, by omega, c, e⟩
    · exact ⟨by omega, hk2, fun hm => by have := hl k hm; omega, fun v => by have := (h5 k v).2.1; omega⟩
  · obtain ⟨a, b, c⟩ := h5 k hk
    exact ⟨a, by omega, c⟩
/-- The program's cache has taken a step; nothing new is its own. -/
theorem duo_c0 {s' : StC} {U V : Nat → Prop} (h2 : RsV V w gw most t) (h3 : StOk most t) (h4 : ∀ k, U k → base ≤ k ∧ k < w.heap.size ∧ k ∉ l ∧ ¬ V k) (h5 : ∀ k, V k → base ≤ k ∧ k < w.heap.size ∧ k ∉ l)
    (q : Qc U w' gc most s') (x : Shy U w w') (hl : ∀ k ∈ l', k ∈ l ∨ w.heap.size ≤ k) : DuoL l' base w' gc gw most s' t ∧ Shy (OutL l base) w w' := by
  have hz := x.size
  refine ⟨⟨U, V, q, h2.shy x (fun k _ v u => (h4 k u).2.2.2 v), h3, fun k hk => ?_, fun k hk => ?_⟩, x.mono (fun k _ u => ⟨(h4 k u).1, (h4 k u).2.2.1⟩)⟩
  · obtain ⟨a, b, c, e⟩ := h4 k hk
    refine ⟨a, by omega, fun hm => ?_, e⟩
    rcases hl k hm with h | h
    · exact c h
    · omega
  · obtain ⟨a, b, c⟩ := h5 k hk
    refine ⟨a, by omega, fun hm => ?_⟩
    rcases hl k hm with h | h
    · exact c h
    · omega
/-- The document's cache has taken a step. -/
theorem duo_r {t' : StC} {U V : Nat → Prop} (hb : base ≤ w.heap.size) (hl : ∀ k ∈ l, k < w.heap.size) (h1 : Qc U w gc most t') (h4 : ∀ k, U k → base ≤ k ∧ k < w.heap.size ∧ k ∉ l ∧ ¬ V k) (h5 : ∀ k, V k → base ≤ k ∧ k < w.heap.size ∧ k ∉ l)
    (h2 : RsV V w gw most t) (r : RsV (More V w) w' gw most t') (x : Shy (fun k => k = gw) w w') : DuoL l base w' gc gw most t' t' ∧ Shy (OutL l base) w w' := by
  have hz := x.size
  have hg : V gw := by obtain ⟨_, _, _, _, _, h, _⟩ := h2; exact h
  refine ⟨⟨U, fun k => More V w k ∧ k < w'.heap.size, h1.shy x (fun k _ u e => (h4 k u).2.2.2 (by rw [e]; exact hg)), r.mono (fun k hk u => ⟨u, hk⟩), h1.1, fun k hk => ?_, fun k hk => ?_⟩, x.mono (fun k _ e => by rw [e]; exact ⟨(h5 gw hg).1, (h5 gw hg).2.2⟩)⟩
  · obtain ⟨a, b, c, e⟩ := h4 k hk
    refine ⟨a, by omega, c, fun h => ?_⟩
    rcases h.1 with v | v
    · exact e v
    · omega
  · obtain ⟨h | h, hk2⟩ := hk
    · obtain ⟨a, b, c⟩ := h5 k h
      exact ⟨a, by omega, c⟩
    · exact ⟨by omega, hk2, fun hm => by have := hl k hm; omega⟩
theorem d_cput (d : DuoL l base w gc gw most s t) (hb : base ≤ w.heap.size) (hl : ∀ k ∈ l, k < w.heap.size) {x : SetS} {A : Option Addr} {c : Nat} (hA : RdG w 1 A x.data.length c (tvs x.data)) (hn : x.nm.length ≤ 2000000) (hd : ∀ d ∈ x.data, d.length ≤ 65535) {rank at_ : Int} (hAb : 1 ≤ x.data.length → ∀ k, blk A = some k → k < base ∨ k ∈ l) :
    Calls Try.prog 14 #[pt gc, .agg #[.string (str x.nm), .int .i64 x.ty, .int .i64 x.cl, .int .i64 x.ttl, .slice A x.data.length c], .int .i64 rank, .int .i64 at_] w fun e w' =>
      e = .returned (.tuple #[.bool (putG most s x rank at_).2.1, .int .i64 (putG most s x rank at_).2.2]) ∧ DuoL l base w' gc gw most (putG most s x rank at_).1 t ∧ Shy (OutL l base) w w' := by
  obtain ⟨U, V, h1, h2, h3, h4, h5⟩ := d
  refine (c_put_any h1 hA hn hd (fun h k hk u => ?_)).mono ?_
  · rcases hAb h k hk with e | e
    · have := (h4 k u).1; omega
    · exact (h4 k u).2.2.1 e
  · rintro e w' ⟨rfl, q, x⟩
    exact ⟨rfl, duo_c hb hl h2 h3 h4 h5 q x⟩
theorem d_cnone (d : DuoL l base w gc gw most s t) (hb : base ≤ w.heap.size) (hl : ∀ k ∈ l, k < w.heap.size) {n : List UInt8} {kind ttl at_ : Int} (hn : n.length ≤ 2000000) :
    Calls Try.prog 17 #[pt gc, .string (str n), .int .i64 kind, .int .i64 ttl, .int .i64 at_] w fun e w' =>
      e = .returned (.tuple #[.bool (noneG most s n kind ttl at_).2.1, .int .i64 (noneG most s n kind ttl at_).2.2]) ∧ DuoL l base w' gc gw most (noneG most s n kind ttl at_).1 t ∧ Shy (OutL l base) w w' := by
  obtain ⟨U, V, h1, h2, h3, h4, h5⟩ := d
  refine (c_none_any h1 hn).mono ?_
  rintro e w' ⟨rfl, q, x⟩
  exact ⟨rfl, duo_c hb hl h2 h3 h4 h5 q x⟩
theorem d_csweep (d : DuoL l base w gc gw most s t) (at_ : Int) :
    Calls Try.prog 25 #[pt gc, .int .i64 at_] w fun e w' => e = .returned (.int .i64 ((sweepG s at_).2 : Nat)) ∧ DuoL l base w' gc gw most (sweepG s at_).1 t ∧ Shy (OutL l base) w w' := by
  obtain ⟨U, V, h1, h2, h3, h4, h5⟩ := d
  refine (c_sweep h1 at_).mono ?_
  rintro e w' ⟨rfl, q, x⟩
  exact ⟨rfl, duo_c0 h2 h3 h4 h5 q x (fun k h => .inl h)⟩
theorem d_rput {x : SetS} {rank at_ : Int} (d : DuoL l base w gc gw most (putG most t x rank at_).1 t) (hb : base ≤ w.heap.size) (hl : ∀ k ∈ l, k < w.heap.size) {A : Option Addr} {c : Nat} (hA : RdG w 1 A x.data.length c (tvs x.data)) (hn : x.nm.length ≤ 2000000) (hd : ∀ d ∈ x.data, d.length ≤ 65535) (hAb : 1 ≤ x.data.length → ∀ k, blk A = some k → k < base ∨ k ∈ l) :
    Calls Try.prog 27 #[pt gw, .agg #[.string (str x.nm), .int .i64 x.ty, .int .i64 x.cl, .int .i64 x.ttl, .slice A x.data.length c], .int .i64 rank, .int .i64 at_] w fun e w' =>
      e = .returned (.tuple #[.bool (putG most t x rank at_).2.1, .int .i64 (putG most t x rank at_).2.2]) ∧ DuoL l base w' gc gw most (putG most t x rank at_).1 (putG most t x rank at_).1 ∧ Shy (OutL l base) w w' := by
  obtain ⟨U, V, h1, h2, h3, h4, h5⟩ := d
  refine (r_put h2 h3 hA hn hd (fun h k hk u => ?_)).mono ?_
  · rcases hAb h k hk with e | e
    · have := (h5 k u).1; omega
    · exact (h5 k u).2.2 e
  · rintro e w' ⟨rfl, r, x⟩
    exact ⟨rfl, duo_r hb hl h1 h4 h5 h2 r x⟩
theorem d_rnone {n : List UInt8} {kind ttl at_ : Int} (d : DuoL l base w gc gw most (noneG most t n kind ttl at_).1 t) (hb : base ≤ w.heap.size) (hl : ∀ k ∈ l, k < w.heap.size) (hn : n.length ≤ 2000000) :
    Calls Try.prog 22 #[pt gw, .string (str n), .int .i64 kind, .int .i64 ttl, .int .i64 at_] w fun e w' =>
      e = .returned (.tuple #[.bool (noneG most t n kind ttl at_).2.1, .int .i64 (noneG most t n kind ttl at_).2.2]) ∧ DuoL l base w' gc gw most (noneG most t n kind ttl at_).1 (noneG most t n kind ttl at_).1 ∧ Shy (OutL l base) w w' := by
  obtain ⟨U, V, h1, h2, h3, h4, h5⟩ := d
  refine (r_none h2 h3 hn).mono ?_
  rintro e w' ⟨rfl, r, x⟩
  exact ⟨rfl, duo_r hb hl h1 h4 h5 h2 r x⟩
theorem d_rsweep {at_ : Int} (d : DuoL l base w gc gw most (sweepG t at_).1 t) (hb : base ≤ w.heap.size) (hl : ∀ k ∈ l, k < w.heap.size) :
    Calls Try.prog 26 #[pt gw, .int .i64 at_] w fun e w' => e = .returned (.int .i64 ((sweepG t at_).2 : Nat)) ∧ DuoL l base w' gc gw most (sweepG t at_).1 (sweepG t at_).1 ∧ Shy (OutL l base) w w' := by
  obtain ⟨U, V, h1, h2, h3, h4, h5⟩ := d
  refine (r_sweep h2 h3 at_).mono ?_
  rintro e w' ⟨rfl, r, x⟩
  exact ⟨rfl, duo_r hb hl h1 h4 h5 h2 r x⟩
theorem d_clen (d : DuoL l base w gc gw most s t) : Calls Try.prog 18 #[pt gc] w fun e w' => e = .returned (.int .i64 s.L.length) ∧ w = w' := by
  obtain ⟨U, V, h1, h2, h3, h4, h5⟩ := d
  exact c_len h1
theorem d_has (d : DuoL l base w gc gw most s t) {n : List UInt8} {kind : Int} (hn : n.length ≤ 2000000) (hki : -9223372036854775808 ≤ kind ∧ kind ≤ 9223372036854775807) :
    Calls Try.prog 19 #[pt gc, .string (str n), .int .i64 kind] w fun e w' => e = .returned (.bool (hasS s n kind)) ∧ Ext w w' := by
  obtain ⟨U, V, h1, h2, h3, h4, h5⟩ := d
  exact c_has h1 hn hki
theorem d_at (d : DuoL l base w gc gw most s t) {n : List UInt8} {kind : Int} (hn : n.length ≤ 2000000) :
    Calls Try.prog 29 #[pt gw, .string (str n), .int .i64 kind] w fun e w' => AtD t n kind w w' e := by
  obtain ⟨U, V, h1, h2, h3, h4, h5⟩ := d
  exact r_at h2 hn
theorem d_rlen (d : DuoL l base w gc gw most s t) : ∃ A c, w.cell? ⟨gw, 1, none⟩ = some (.slice A t.L.length c) ∧ t.L.length ≤ c ∧ c ≤ maxLen ∧ gw < w.heap.size ∧ t.L.length ≤ 4096 := by
  obtain ⟨U, V, h1, h2, h3, h4, h5⟩ := d
  obtain ⟨A, c, e1, e2, e3⟩ := h2.len
  exact ⟨A, c, e1, e2, e3, h2.lt, st_len h3⟩
end
end Go.Proofs.Ytcddfenhkljpeaa
/- Layer 23: Get of both, side by side (the program's). -/
namespace Go.BK
open Go Go.RowKit
section
variable {P : Program} {ops : Array Oper} {Q : Exit → Act → World → Prop} {md : Region.Mode} {S : World → Prop}
theorem EG_three {n : Nat} (i j l : Nat) {oi oj ol : Oper} {f : Nat} {listed : Array Bool} {a : Act} {w : World} (hr : Region.ready md ops listed = [i, j, l]) (hi : ops[i]? = some oi) (hj : ops[j]? = some oj) (hl : ops[l]? = some ol) (hin : i < n) (hjn : j < n) (hln : l < n)
    (h : ∀ K' : Act → World → Prop, (∀ a' w', S w' → EG P md ops Q S n f (listed.setIfInBounds i true) a' w' → K' a' w') → if Region.wanted oi (yielded ops a.tmps) = true then Oper.wp P oi a w K' Q else K' (a.put oi.dst undef) w)
    (k : ∀ K' : Act → World → Prop, (∀ a' w', S w' → EG P md ops Q S n f (listed.setIfInBounds j true) a' w' → K' a' w') → if Region.wanted oj (yielded ops a.tmps) = true then Oper.wp P oj a w K' Q else K' (a.put oj.dst undef) w)
    (m : ∀ K' : Act → World → Prop, (∀ a' w', S w' → EG P md ops Q S n f (listed.setIfInBounds l true) a' w' → K' a' w') → if Region.wanted ol (yielded ops a.tmps) = true then Oper.wp P ol a w K' Q else K' (a.put ol.dst undef) w) : EG P md ops Q S n (f + 1) listed a w := fun hB inv => by
  have hm : i ∈ Region.ready md ops listed := by rw [hr]; simp
  have hm2 : j ∈ Region.ready md ops listed := by rw [hr]; simp
  have hm3 : l ∈ Region.ready md ops listed := by rw [hr]; simp
  refine ⟨by rw [hr]; simp, fun q hq => ?_⟩
  rw [hr] at hq
  rcases (show q = i ∨ q = j ∨ q = l by simpa using hq) with rfl | rfl | rfl
  · exact ⟨hin, wpOp_step hi fun K' hK => h K' fun a' w' hS he => hK a' w' ⟨hS, he hB (inv.set hm hin)⟩⟩
  · exact ⟨hjn, wpOp_step hj fun K' hK => k K' fun a' w' hS he => hK a' w' ⟨hS, he hB (inv.set hm2 hjn)⟩⟩
  · exact ⟨hln, wpOp_step hl fun K' hK => m K' fun a' w' hS he => hK a' w' ⟨hS, he hB (inv.set hm3 hln)⟩⟩
end
end Go.BK
namespace Go.Proofs.Ytcddfenhkljpeaa
open Go.BK Go.BK.CH Go.BK.NM Go.RowKit Go.Maps
set_option linter.unusedVariables false
set_option linter.unusedSimpArgs false
theorem getS_len {most : Int} {s : StC} (h : StOk most s) (n : List UInt8) (kind rank at_ : Int) : (getS s n kind rank at_).2.s.data.length ≤ 64 := by
  have z : ∀ (L : List Ent) (t : Int) (low : List UInt8), (get2S L t low).2.s.data.length ≤ 64 := by
    intro L t low
    unfold get2S
    split <;> exact Nat.zero_le _
  unfold getS
  split
  · rename_i a b x rk e he
    split
    · have := (h.2.2.2.1 _ (live_mem he).1).2.2 x rk e rfl
      exact this.2.2
    · exact z _ _ _
  · exact Nat.zero_le _
  · exact z _ _ _
theorem getG_len {most : Int} {s : StC} (h : StOk most s) (n : List UInt8) (kind rank at_ : Int) : (getG s n kind rank at_).2.s.data.length ≤ 64 := by
  unfold getG
  split
  · exact Nat.zero_le _
  · exact getS_len h n kind rank at_
section
variable {l l' : List Nat} {base : Nat} {w w' : World} {gc gw : Nat} {most : Int} {s t : StC}
theorem DuoL.len (d : DuoL l base w gc gw most s t) (n : List UInt8) (kind rank at_ : Int) : (getG t n kind rank at_).2.s.data.length ≤ 64 := by
  obtain ⟨U, V, h1, h2, h3, h4, h5⟩ := d
  exact getG_len h3 n kind rank at_
def CgD (l : List Nat) (base : Nat) (w w' : World) (gc gw : Nat) (most : Int) (s t : StC) (f : FoundS) (e : Ending) : Prop :=
  ∃ A c, e = .returned (foundV f A c) ∧ OwnG isT w' w.heap.size 9 1 A f.s.data.length c (tvs f.s.data) ∧ DuoL ((blk A).toList ++ l) base w' gc gw most s t ∧ Shy (OutL l base) w w'
theorem d_cget (d : DuoL l base w gc gw most s t) {n : List UInt8} {kind rank at_ : Int} (hn : n.length ≤ 2000000) (hki : -9223372036854775808 ≤ kind ∧ kind ≤ 9223372036854775807) :
    Calls Try.prog 15 #[pt gc, .string (str n), .int .i64 kind, .int .i64 rank, .int .i64 at_] w fun e w' => CgD l base w w' gc gw most (getG s n kind rank at_).1 t (getG s n kind rank at_).2 e := by
  obtain ⟨U, V, h1, h2, h3, h4, h5⟩ := d
  refine (c_get_any h1 hn hki).mono ?_
  rintro e w' ⟨A, c, rfl, o, q, x⟩
  have dd := duo_c0 (l' := (blk A).toList ++ l) h2 h3 h4 h5 q x (fun k hk => by
    rcases List.mem_append.1 hk with h | h
    · exact .inr (o.lt k (by simpa using h)).1
    · exact .inl h)
  exact ⟨A, c, rfl, o, dd.1, dd.2⟩
def RgL (l : List Nat) (base : Nat) (w w' : World) (gc gw : Nat) (most : Int) (s t : StC) (f : FoundS) (e : Ending) : Prop :=
  ∃ A c, e = .returned (foundV f A c) ∧ OwnG isT w' w.heap.size 9 1 A f.s.data.length c (tvs f.s.data) ∧ DuoL l base w' gc gw most s t ∧ Shy (OutL l base) w w'
end
end Go.Proofs.Ytcddfenhkljpeaa

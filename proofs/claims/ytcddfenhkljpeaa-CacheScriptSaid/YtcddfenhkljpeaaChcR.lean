import Derived.Test.YtcddfenhkljpeaaChcN
/- Layer 23: PutNone. (Printed by gen_chcr.py.) -/
namespace Go.Proofs.Ytcddfenhkljpeaa
open Go.BK Go.BK.CH Go.BK.NM Go.RowKit Go.Maps
set_option linter.unusedVariables false
set_option linter.unusedSimpArgs false
def PutND (w w' : World) (g og mb : Nat) (most tm : Int) (R R1 : List Row) (low : List UInt8) (kind ttl : Int) (e : Ending) : Prop :=
  ∃ b, e = .returned (.tuple #[.bool true, .int .i64 0]) ∧ w.heap.size ≤ b ∧ CacM w' g og mb most tm (putR most R1 ⟨low, kind, .none (tm + ttl), b, none, 0⟩) ∧ Shy (wrC g og mb R) w w'
def goneR (R : List Row) (low : List UInt8) : List Row := R.filter (fun r => !decide (r.n = low))
theorem goneR_sub {R : List Row} {low : List UInt8} : ∀ r ∈ goneR R low, r ∈ R := fun r hr => (List.mem_filter.1 hr).1
theorem goneR_len {R : List Row} {low : List UInt8} : (goneR R low).length ≤ R.length := List.length_filter_le _ _
theorem goneR_diff {R : List Row} {low : List UInt8} (h : DiffR R) : DiffR (goneR R low) := List.Pairwise.filter _ h
theorem goneR_keep {A : List Row} {r : Row} {low : List UInt8} (h : ¬ r.n = low) : goneR (A ++ [r]) low = goneR A low ++ [r] := by
  unfold goneR
  rw [List.filter_append, List.filter_cons]
  simp [h]
theorem goneR_drop {A : List Row} {r : Row} {low : List UInt8} (h : r.n = low) : goneR (A ++ [r]) low = goneR A low := by
  unfold goneR
  rw [List.filter_append, List.filter_cons]
  simp [h]
/-- How many rows are behind an element (and itself). -/
def stepsR (R : List Row) : Value → Nat
  | .pointer (some ⟨b, _, _⟩) => R.length - (R.map (·.b)).idxOf b
  | _ => 0
theorem steps_front {R A B : List Row} (hR : R = A ++ B) (hd : (R.map (·.b)).Nodup) : stepsR R (frontV (B.map eltC)) = B.length := by
  subst hR
  cases B with
  | nil => rfl
  | cons r B =>
    show (A ++ r :: B).length - ((A ++ r :: B).map (·.b)).idxOf r.b = _
    rw [List.map_append, List.map_cons, List.nodup_append] at hd
    have hn : r.b ∉ A.map (·.b) := fun h => hd.2.2 _ h r.b (by simp) rfl
    rw [List.map_append, List.idxOf_append, if_neg hn, List.map_cons, List.idxOf_cons_self, List.length_append, List.length_map]
    omega
theorem CacM.nodup {w : World} {g og mb : Nat} {most now : Int} {R : List Row} (h : CacM w g og mb most now R) : (R.map (·.b)).Nodup := by
  have h1 := h.2.1.2.2.1
  rw [List.map_map] at h1
  exact h1
def PnRel (w0 : World) (g og mb : Nat) (most tm : Int) (R : List Row) (low : List UInt8) (ev nv : Value) (wr : World) : Prop :=
  ∃ A B, R = A ++ B ∧ ev = frontV (B.map eltC) ∧ CacM wr g og mb most tm (goneR A low ++ B) ∧ Shy (wrC g og mb R) w0 wr
section
variable {w w' w5 w6 : World} {g og mb : Nat} {most now : Int} {R P1 P2 : List Row} {r : Row}
set_option maxHeartbeats 4000000 in
set_option maxRecDepth 100000 in
theorem putnone_kind (h : CacB w g og mb most now R) {n : List UInt8} {kind ttl at_ : Int} (hn : n.length ≤ 2000000) (hc : checkS n = 0) (hat : inTime at_) (hki : 0 ≤ kind ∧ kind ≤ 65535) (htt : 0 < ttl ∧ ttl < 2147483648) (hk0 : kind ≠ 0) :
    Calls Try.prog 17 #[pt g, .string (str n), .int .i64 kind, .int .i64 ttl, .int .i64 at_] w fun e w' => PutND w w' g og mb most (tmax now at_) R R (lower n) kind ttl e := by
  obtain ⟨hM, hO⟩ := h
  obtain ⟨o1, o2, o3, o4, o5, o6, o7⟩ := hO
  have hwf : ∀ s ∈ R, wfN s.n s.k := fun s hs => (o6 s hs).1
  have HM0 := hid hM
  have CAB := absent_no hM
  have CCH := check_in n w hn
  rw [hc] at CCH
  have CWI := fun W => within_in at_ W
  rw [decide_eq_true hat] at CWI
  obtain ⟨tm, htm⟩ : ∃ tm, (if now < at_ then at_ else now) = tm := ⟨_, rfl⟩
  have htm2 : tmax now at_ = tm := by unfold tmax; exact htm
  have htr := tmax_range ⟨o3, o4⟩ hat
  rw [htm2] at htr ⊢
  have CLO := fun W => lower_in n W hn
  obtain ⟨low, hlow⟩ : ∃ low, lower n = low := ⟨_, rfl⟩
  have hlowl : low.length ≤ 2000000 := by rw [← hlow]; simpa [lower] using hn
  rw [hlow] at CLO ⊢
  have hwk : wfN low kind := ⟨by omega, hlowl⟩
  have HWF := hid hwf
  have HD := hid o7
  have O5 := hid o5
  have HWK := hid hwk
  have CAB := hid CAB
  have CCH := hid CCH
  have CWI := hid CWI
  have CLO := hid CLO
  have i1 : decide (kind < 0) = false := by simp; omega
  have i2 : decide (65535 < kind) = false := by simp; omega
  have i3 : decide (ttl < 0) = false := by simp; omega
  have i4 : decide (2147483648 ≤ ttl) = false := by simp; omega
  have i5 : (ttl == 0) = false := by simp; omega
  have i6 : (kind == 0) = false := by simp; omega
  simp only [pt]
  clear hM hwf o5 o6 o7 hlow hwk htm2 hlowl
  go_enter Try.func17, Try.ntmps17
  go_wp2_with fail
  refine CAB.out.mono ?_
  rintro e _ ⟨rfl, rfl⟩
  go_wp2_with fail
  refine CCH.out.mono ?_
  rintro e w1 ⟨rfl, x1⟩
  have H2 := hid (HM0.out.ext x1)
  have X1 := hid x1
  clear x1
  go_wp2_with fail
  refine (CWI.out _).mono ?_
  rintro e _ ⟨rfl, rfl⟩
  have c1 : w1.cell? ⟨g, 1, none⟩ = some (.int .i64 now) := H2.out.1.cell 1
  have cf := H2.out.1.frozen
  have h3 := H2.out.time tm
  have s3 := set_shy g 1 (.int .i64 tm) w1
  obtain ⟨w2, hw2⟩ : ∃ w2, w1.setCell ⟨g, 1, none⟩ (.int .i64 tm) = w2 := ⟨_, rfl⟩
  rw [hw2] at h3 s3
  have HW2 := hid hw2
  have H3 := hid h3
  have S3 : Hid (Shy (wrC g og mb R) w w2) := hid ((Shy.of_ext X1.out).trans s3 (fun k _ e => .inl e))
  clear h3 s3 hw2
  go_upto_region 6 with (fail)
  rw [HW2.out]
  clear c1 cf htm
  go_wp2_with fail
  refine (CLO.out _).mono ?_
  rintro e w4 ⟨rfl, x4⟩
  have H4 := hid (H3.out.ext x4)
  have S4 : Hid (Shy (wrC g og mb R) w w4) := hid (S3.out.ext x4)
  clear x4
  have H5 := H4
  have S5 := S4

  have hw64 := (add_nums tm ttl htr ⟨by omega, htt.2⟩).1
  have hw63 := (add_nums tm ttl htr ⟨by omega, htt.2⟩).2
  have m1 := H5.out.1.cell 1
  simp at m1
  have PI := put_in H5.out ⟨o1, o2⟩ O5.out HWF.out HD.out HWK.out (.none (tm + ttl)) none 0 (OwnG.nil _ _ _ _ _) (fun j hj => by simp [blk] at hj)
  unfold thV at PI
  simp only [pt] at PI
  have PI := hid PI
  go_wp2_with fail
  refine PI.out.mono ?_
  rintro e w6 ⟨b, rfl, hb, h6, s6⟩
  go_wp2_with fail
  go_ret2
  exact ⟨b, rfl, by have := S5.out.size; omega, h6, S5.out.trans s6 (fun k _ e => e.sub (fun r hr => hr))⟩
set_option maxHeartbeats 4000000 in
set_option maxRecDepth 100000 in
theorem putnone_name (h : CacB w g og mb most now R) {n : List UInt8} {kind ttl at_ : Int} (hn : n.length ≤ 2000000) (hc : checkS n = 0) (hat : inTime at_) (hki : 0 ≤ kind ∧ kind ≤ 65535) (htt : 0 < ttl ∧ ttl < 2147483648) (hk0 : kind = 0) :
    Calls Try.prog 17 #[pt g, .string (str n), .int .i64 kind, .int .i64 ttl, .int .i64 at_] w fun e w' => PutND w w' g og mb most (tmax now at_) R (goneR R (lower n)) (lower n) kind ttl e := by
  obtain ⟨hM, hO⟩ := h
  obtain ⟨o1, o2, o3, o4, o5, o6, o7⟩ := hO
  have hwf : ∀ s ∈ R, wfN s.n s.k := fun s hs => (o6 s hs).1
  have HM0 := hid hM
  have CAB := absent_no hM
  have CCH := check_in n w hn
  rw [hc] at CCH
  have CWI := fun W => within_in at_ W
  rw [decide_eq_true hat] at CWI
  obtain ⟨tm, htm⟩ : ∃ tm, (if now < at_ then at_ else now) = tm := ⟨_, rfl⟩
  have htm2 : tmax now at_ = tm := by unfold tmax; exact htm
  have htr := tmax_range ⟨o3, o4⟩ hat
  rw [htm2] at htr ⊢
  have CLO := fun W => lower_in n W hn
  obtain ⟨low, hlow⟩ : ∃ low, lower n = low := ⟨_, rfl⟩
  have hlowl : low.length ≤ 2000000 := by rw [← hlow]; simpa [lower] using hn
  rw [hlow] at CLO ⊢
  have hwk : wfN low kind := ⟨by omega, hlowl⟩
  have HWF := hid hwf
  have HD := hid o7
  have O5 := hid o5
  have HWK := hid hwk
  have CAB := hid CAB
  have CCH := hid CCH
  have CWI := hid CWI
  have CLO := hid CLO
  have i1 : decide (kind < 0) = false := by simp; omega
  have i2 : decide (65535 < kind) = false := by simp; omega
  have i3 : decide (ttl < 0) = false := by simp; omega
  have i4 : decide (2147483648 ≤ ttl) = false := by simp; omega
  have i5 : (ttl == 0) = false := by simp; omega
  skip
  simp only [pt]
  clear hM hwf o5 o6 o7 hlow hwk htm2 hlowl
  go_enter Try.func17, Try.ntmps17
  go_wp2_with fail
  refine CAB.out.mono ?_
  rintro e _ ⟨rfl, rfl⟩
  go_wp2_with fail
  refine CCH.out.mono ?_
  rintro e w1 ⟨rfl, x1⟩
  have H2 := hid (HM0.out.ext x1)
  have X1 := hid x1
  clear x1
  go_wp2_with fail
  refine (CWI.out _).mono ?_
  rintro e _ ⟨rfl, rfl⟩
  have c1 : w1.cell? ⟨g, 1, none⟩ = some (.int .i64 now) := H2.out.1.cell 1
  have cf := H2.out.1.frozen
  have h3 := H2.out.time tm
  have s3 := set_shy g 1 (.int .i64 tm) w1
  obtain ⟨w2, hw2⟩ : ∃ w2, w1.setCell ⟨g, 1, none⟩ (.int .i64 tm) = w2 := ⟨_, rfl⟩
  rw [hw2] at h3 s3
  have HW2 := hid hw2
  have H3 := hid h3
  have S3 : Hid (Shy (wrC g og mb R) w w2) := hid ((Shy.of_ext X1.out).trans s3 (fun k _ e => .inl e))
  clear h3 s3 hw2
  go_upto_region 6 with (fail)
  rw [HW2.out]
  clear c1 cf htm
  go_wp2_with fail
  refine (CLO.out _).mono ?_
  rintro e w4 ⟨rfl, x4⟩
  have H4 := hid (H3.out.ext x4)
  have S4 : Hid (Shy (wrC g og mb R) w w4) := hid (S3.out.ext x4)
  clear x4
  subst hk0
  have FR := chain_front H4.out.2.1
  simp only [pt] at FR
  have FR := hid FR
  have o2' : w4.cell? ⟨g, 2, none⟩ = some (.pointer (some ⟨og, 0, none⟩)) := H4.out.1.cell 2
  go_wp2_with fail
  refine FR.out.mono ?_
  rintro e _ ⟨rfl, rfl⟩
  clear o2' FR CAB CCH CWI CLO
  go_wp2_with fail
  go_loopw [13, 14] (fun ev nv wr => PnRel w g og mb most tm R low ev nv wr) (fun ev _ _ => stepsR R ev)
  case atStart => exact ⟨[], R, rfl, rfl, H4.out, S4.out⟩
  case round =>
    obtain ⟨A, B, hR, rfl, hm, hs⟩ := hrel
    cases B with
    | cons r B =>
      have hnd := HM0.out.nodup
      have h1st : stepsR R (frontV ((r :: B).map eltC)) = B.length + 1 := by rw [steps_front hR hnd]; rfl
      have h2st : stepsR R (frontV (B.map eltC)) = B.length := steps_front (A := A ++ [r]) (by rw [hR]; simp) hnd
      have hmem : r ∈ goneR A low ++ r :: B := by simp
      have hwfA : ∀ s ∈ goneR A low ++ r :: B, wfN s.n s.k := fun s hs => HWF.out s (by
        rw [hR]
        rcases List.mem_append.1 hs with h | h
        · exact List.mem_append.2 (.inl (goneR_sub s h))
        · exact List.mem_append.2 (.inr h))
      have hsubA : ∀ s ∈ goneR A low ++ r :: B, s ∈ R := fun s hs => by
        rw [hR]
        rcases List.mem_append.1 hs with h | h
        · exact List.mem_append.2 (.inl (goneR_sub s h))
        · exact List.mem_append.2 (.inr h)
      have hdA : DiffR (goneR A low ++ r :: B) := by
        have h1 := HD.out
        rw [hR] at h1
        exact List.Pairwise.sublist (List.Sublist.append (List.filter_sublist) (List.Sublist.refl _)) h1
      have NX := chain_next (A := (goneR A low).map eltC) (B := B.map eltC) (x := eltC r) (by have h1 := hm.2.1; rw [List.map_append, List.map_cons] at h1; exact h1)
      rw [show (eltC r).1 = r.b from rfl] at NX
      simp only [pt] at NX
      have NX := hid NX
      obtain ⟨tt, tv, htv⟩ := thV_if r.x r.A r.c
      have hwr : wfN r.n r.k := hwfA r hmem
      have HR := hid hR
      have HM := hid hm
      have HS := hid hs
      have HMEM := hid hmem
      have HWFA := hid hwfA
      have HSUBA := hid hsubA
      have HDA := hid hdA
      have HTV := hid htv
      have H1ST := hid h1st
      have H2ST := hid h2st
      have HWR := hid hwr
      clear hR hm hs hmem hwfA hsubA hdA htv h1st h2st hnd hwr
      rw [show frontV ((r :: B).map eltC) = .pointer (some ⟨r.b, 0, none⟩) from rfl] at *
      go_wp2_with fail
      refine NX.out.mono ?_
      rintro e w5 ⟨rfl, nq, hw5⟩
      have M5 : Hid (CacM w5 g og mb most tm (goneR A low ++ r :: B)) := hid (HM.out.shy (U := fun _ => False) (by rw [hw5]; exact shy_drewN _ nq) (fun _ _ h => h))
      have S5 : Hid (Shy (wrC g og mb R) w w5) := hid (HS.out.trans (show Shy (fun _ => False) _ w5 from by rw [hw5]; exact shy_drewN _ nq) (fun k _ e => e.elim))
      have OF := of_in M5.out HMEM.out
      rw [HTV.out] at OF
      simp only [pt] at OF
      have OF := hid OF
      clear hw5 NX
      go_wp2_with fail
      refine OF.out.mono ?_
      rintro e w6 ⟨rfl, x6⟩
      have hfk := field_key (str r.n) r.k tt tv w6
      have xk := ext_alloc w6 (.cells #[.string (str r.n), .int .i64 r.k] 77)
      have bk := Blk.new w6 77 #[.string (str r.n), .int .i64 r.k]
      obtain ⟨w7, hw7⟩ : ∃ w7, w6.alloc (.cells #[.string (str r.n), .int .i64 r.k] 77) = w7 := ⟨_, rfl⟩
      obtain ⟨gk, hgk⟩ : ∃ gk, w6.heap.size = gk := ⟨_, rfl⟩
      rw [hw7] at xk bk
      rw [hgk] at bk
      have M7 := hid ((M5.out.ext x6).ext xk)
      have S7 := hid ((S5.out.ext x6).ext xk)
      have k0 : w7.cell? ⟨gk, 0, none⟩ = some (.string (str r.n)) := bk.cell 0
      have k1 : w7.cell? ⟨gk, 1, none⟩ = some (.int .i64 r.k) := bk.cell 1
      have HW7 := hid hw7
      have HGK := hid hgk
      clear x6 xk bk OF M5 S5 hw7 hgk
      go_upto_region 15 with (fail)
      rw [HW7.out, HGK.out]
      by_cases hq : r.n = low
      · have q1 : (r.n == low) = true := by rw [hq]; simp
        have CO := out_any (n := r.n) (k := r.k) M7.out HWFA.out HDA.out HWR.out
        rw [outR_yes HDA.out] at CO
        simp only [pt] at CO
        have CO := hid CO
        have HQ := hid hq
        clear hq
        go_wp2_with fail
        with_reducible refine CO.out.mono ?_
        rintro e w8 ⟨rfl, m8, s8⟩
        have REL : PnRel w g og mb most tm R low (frontV (B.map eltC)) (frontV (B.map eltC)) w8 := ⟨A ++ [r], B, by rw [HR.out]; simp, rfl, by rw [goneR_drop HQ.out]; exact m8, S7.out.trans s8 (fun k _ e => e.sub HSUBA.out)⟩
        have RELH := hid REL
        clear m8 s8 CO REL
        go_wp2_with fail
        go_roundw
        case rel => exact RELH.out
        case measure => rw [H1ST.out, H2ST.out]; omega
      · have q1 : (r.n == low) = false := by simp [hq]
        have REL : PnRel w g og mb most tm R low (frontV (B.map eltC)) (frontV (B.map eltC)) w7 := ⟨A ++ [r], B, by rw [HR.out]; simp, rfl, by rw [goneR_keep hq]; have h1 := M7.out; simpa using h1, S7.out⟩
        have RELH := hid REL
        clear REL
        go_wp2_with fail
        go_roundw
        case rel => exact RELH.out
        case measure => rw [H1ST.out, H2ST.out]; omega
    | nil =>
      have hA : A = R := by rw [hR]; simp
      rw [hA, List.append_nil] at hm
      have H5 := hid hm
      have S5 := hid hs
      clear hm hs hR
      rw [show frontV (([] : List Row).map eltC) = .pointer none from rfl] at *
      have hw64 := (add_nums tm ttl htr ⟨by omega, htt.2⟩).1
      have hw63 := (add_nums tm ttl htr ⟨by omega, htt.2⟩).2
      have m1 := H5.out.1.cell 1
      simp at m1
      have PI := put_in H5.out ⟨o1, o2⟩ (by have := O5.out; have := goneR_len (R := R) (low := low); omega) (fun r hr => HWF.out r (goneR_sub r hr)) (goneR_diff HD.out) HWK.out (.none (tm + ttl)) none 0 (OwnG.nil _ _ _ _ _) (fun j hj => by simp [blk] at hj)
      unfold thV at PI
      simp only [pt] at PI
      have PI := hid PI
      go_wp2_with fail
      refine PI.out.mono ?_
      rintro e w6 ⟨b, rfl, hb, h6, s6⟩
      go_wp2_with fail
      go_ret2
      exact ⟨b, rfl, by have := S5.out.size; omega, h6, S5.out.trans s6 (fun k _ e => e.sub goneR_sub)⟩
end
end Go.Proofs.Ytcddfenhkljpeaa

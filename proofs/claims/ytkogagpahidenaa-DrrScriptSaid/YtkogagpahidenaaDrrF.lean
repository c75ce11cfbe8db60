/- Layer 21: Peek. -/
import Derived.Test.YtkogagpahidenaaDrrE
namespace Go.Proofs.Ytkogagpahidenaa
open Go.BK Go.BK.DR Go.RowKit Go.Maps
set_option linter.unusedVariables false
section
variable {w : World} {g lb mb : Nat} {p : Par} {R R1 R2 : List Row} {r : Row} {t : Bool} {n : Int}
def PeekRel (w : World) (g lb mb : Nat) (p : Par) (R : List Row) (t : Bool) (n : Int) (tv e : Value) (wr : World) : Prop :=
  Ext w wr ∧ ((tv = .bool t ∧ e = frontV (R.map eltR)) ∨ (t = true ∧ tv = .bool false ∧ ∃ r S, R = r :: S ∧ e = frontV (S.map eltR) ∧ r.cl.cr < headK r.cl))
def peekM (tv : Value) : Nat := match tv with
  | .bool true => 1
  | _ => 0
/-- A client of the ring, as a look at it wants. -/
theorem QR.look1 (h : QR w g lb mb p R t n) (hs : (stR R t).ok p) (hr : r ∈ R) : ∃ k x L b o m, r.cl.L = (k, x) :: L ∧ L.length = m ∧ (1 ≤ k ∧ k ≤ p.most) ∧ (0 ≤ r.cl.cr ∧ r.cl.cr < p.most + p.quantum) ∧ w.cell? ⟨r.c, 0, none⟩ = some (.int .i64 r.cl.n) ∧ w.cell? ⟨r.c, 1, none⟩ = some (.int .i64 r.cl.cr) ∧
    w.cell? ⟨r.c, 2, none⟩ = some (.slice (some ⟨b, o, none⟩) (m + 1) r.cc) ∧ w.cell? ⟨b, o, none⟩ = some (.int .i64 k) ∧ w.cell? ⟨b, o + 1, none⟩ = some (.int .i64 x) ∧ (∀ i, w.frozen? ⟨r.c, i, none⟩ = false) := by
  obtain ⟨q1, q2, q3, q4, q5⟩ := hs.2.1 r.cl (List.mem_map_of_mem hr)
  rcases hL : r.cl.L with _ | ⟨⟨k, x⟩, L⟩
  · exact absurd hL q1
  have hk := q3 (k, x) (by simp [hL])
  obtain ⟨b, o, hA, hb, hit⟩ := h.items hr q1
  obtain ⟨i1, i2⟩ := hit 0 (by rw [hL]; simp)
  rw [hL] at i1 i2
  simp at i1 i2
  obtain ⟨d0, d1, d2, df⟩ := h.ccells hr
  rw [hA, hL] at d2
  exact ⟨k, x, L, b, o, L.length, rfl, rfl, hk, ⟨q4, q5⟩, d0, d1, d2, i1, i2, df⟩
set_option maxHeartbeats 4000000 in
set_option maxRecDepth 100000 in
theorem peek_any (h : QR w g lb mb p R t n) (hp : p.ok) (hs : (stR R t).ok p) :
    Calls Try.prog 22 #[.pointer (some ⟨g, 0, none⟩)] w fun e w' => e = .returned (tellV (nextS p (stR R t)).2) ∧ Ext w w' := by
  obtain ⟨tv, htv⟩ : ∃ tv, tellV (nextS p (stR R t)).2 = tv := ⟨_, rfl⟩
  have HTV := hid htv
  rw [htv]
  have C := hid (none_no h)
  have CF := chain_front h.ring
  obtain ⟨v0, hv0⟩ : ∃ v, frontV (R.map eltR) = v := ⟨_, rfl⟩
  rw [hv0] at CF
  have CF := hid CF
  have HV := hid hv0
  obtain ⟨_, _, c2, _, c4, _, c6, _, cf⟩ := h.cells
  have hpp := hp
  unfold Par.ok at hpp
  have H := hid h
  have HS := hid hs
  have HP := hid hp
  clear h hs hp htv hv0
  go_enter Try.func22, Try.ntmps22
  go_wp2_with fail
  refine C.out.mono ?_
  rintro e _ ⟨rfl, rfl⟩
  go_wp2_with fail
  refine CF.out.mono ?_
  rintro e _ ⟨rfl, rfl⟩
  go_wp2_with fail
  go_loopw [5, 6] (fun tv e wr => PeekRel w g lb mb p R t n tv e wr) (fun tv _ _ => peekM tv)
  case atStart => exact ⟨Below.refl _ _, .inl ⟨rfl, HV.out.symm⟩⟩
  case round =>
    obtain ⟨x, hr⟩ := hrel
    have Q := H.out.ext x
    clear c2 c4 c6 cf
    obtain ⟨_, _, c2, _, c4, _, c6, _, cf⟩ := Q.cells
    have X := hid x
    rcases hr with ⟨rfl, he⟩ | ⟨rfl, rfl, r0, S, hR, he, hlow⟩
    · cases hRR : R with
      | nil =>
        rw [hRR] at he
        simp only [List.map_nil, frontV] at he
        subst he
        have CF2 := chain_front Q.ring
        rw [hRR] at CF2
        simp only [List.map_nil, frontV, pt] at CF2
        have CF2 := hid CF2
        have HRR := hid hRR
        clear hRR Q x
        go_wp2_with fail
        refine CF2.out.mono ?_
        rintro e _ ⟨rfl, rfl⟩
        go_wp2_with fail
        refine bodyPost_ret (by simp [results, Try.results22, go_sem]; rfl) rfl ?_
        have h1 := HTV.out
        rw [HRR.out] at h1
        exact ⟨by rw [← h1]; rfl, X.out⟩
      | cons r S =>
        rw [hRR] at he
        simp only [List.map_cons, frontV, eltR, pt] at he
        subst he
        have hr : r ∈ R := by rw [hRR]; simp
        obtain ⟨k, y, L, b, o, m, hL, hm, hk, hcr, d0, d1, d2, i1, i2, df⟩ := Q.look1 HS.out hr
        have CO := hid (of_row Q hr)
        have hnx : ¬ (t = true ∧ r.cl.cr < headK r.cl) → tv = tellV (some (r.cl.n, y)) := by
          intro hh
          rw [← HTV.out, hRR]
          have := next_fits (p := p) (rest := S.map Row.cl) hh
          rw [DR.serve_cons hL] at this
          exact congrArg (fun z => tellV z.2) this
        have hhk : headK r.cl = k := by simp [headK, hL]
        rw [hhk] at hnx
        have HNX := hid hnx
        have HRR := hid hRR
        have HHK := hid hhk
        have CN := chain_next (A := []) (x := eltR r) (B := S.map eltR) (by have := Q.ring; rw [hRR] at this; simpa using this)
        obtain ⟨v1, hv1⟩ : ∃ v, frontV (S.map eltR) = v := ⟨_, rfl⟩
        rw [hv1] at CN
        have CN := hid CN
        have HV1 := hid hv1
        obtain ⟨cr, hc⟩ : ∃ cr, r.cl.cr = cr := ⟨_, rfl⟩
        rw [hc] at d1 hcr
        have HC := hid hc
        have HL := hid hL
        clear hL hnx hhk hRR Q x hc hm hv1
        obtain ⟨rc, hrc⟩ : ∃ rc, r.c = rc := ⟨_, rfl⟩
        rw [hrc] at d0 d1 d2 CO
        simp only [hrc] at df
        obtain ⟨re, hre⟩ : ∃ re, r.e = re := ⟨_, rfl⟩
        rw [hre] at CO ⊢
        simp only [eltR, hre] at CN
        obtain ⟨rn, hrn⟩ : ∃ rn, r.cl.n = rn := ⟨_, rfl⟩
        rw [hrn] at d0 HNX
        rw [HC.out] at HNX
        have hRE := hid hre
        clear hrc hre hrn
        cases t
        · have hz : k ≤ cr + p.quantum := by omega
          have HT := hid (HNX.out (by simp))
          go_wp2_with fail
          refine CO.out.mono ?_
          rintro e _ ⟨rfl, rfl⟩
          go_wp2_with fail
          go_quiet (fail)
          go_wp2_with fail
          refine bodyPost_ret (by simp [results, Try.results22, go_sem]; rfl) rfl ?_
          exact ⟨by rw [HT.out]; rfl, ext_trans X.out (ext_drewN _ _)⟩
        · by_cases hf : cr < k
          · have hz : ¬ k ≤ cr := by omega
            go_wp2_with fail
            refine CO.out.mono ?_
            rintro e _ ⟨rfl, rfl⟩
            go_wp2_with fail
            refine CN.out.mono ?_
            rintro e w2 ⟨rfl, nq, rfl⟩
            go_wp2_with fail
            go_roundw
            case rel => exact ⟨ext_trans X.out (ext_drewN _ _), .inr ⟨rfl, rfl, r, S, by first | exact HRR.out | rfl, HV1.out.symm, by rw [HHK.out, HC.out]; exact hf⟩⟩
            case measure => simp [peekM]
          · have hz : k ≤ cr := by omega
            have HT := hid (HNX.out (by simp; omega))
            go_wp2_with fail
            refine CO.out.mono ?_
            rintro e _ ⟨rfl, rfl⟩
            go_wp2_with fail
            go_quiet (fail)
            go_wp2_with fail
            refine bodyPost_ret (by simp [results, Try.results22, go_sem]; rfl) rfl ?_
            exact ⟨by rw [HT.out]; rfl, ext_trans X.out (ext_drewN _ _)⟩
    · cases S with
      | nil =>
        simp only [List.map_nil, frontV] at he
        subst he
        have hr : r0 ∈ R := by rw [hR]; simp
        obtain ⟨k, y, L, b, o, m, hL, hm, hk, hcr, d0, d1, d2, i1, i2, df⟩ := Q.look1 HS.out hr
        have CO := hid (of_row Q hr)
        have CF2 := chain_front Q.ring
        rw [hR] at CF2
        simp only [List.map_cons, List.map_nil, frontV, eltR, pt] at CF2
        have CF2 := hid CF2
        have hnx : tv = tellV (some (r0.cl.n, y)) := by
          rw [← HTV.out, hR]
          have := next_turned (p := p) (d := r0.cl) (rest := []) (rest' := []) hlow rfl
          rw [DR.serve_cons hL] at this
          exact congrArg (fun z => tellV z.2) this
        have HT := hid hnx
        clear hL hnx hR Q x hm hlow
        go_wp2_with fail
        refine CF2.out.mono ?_
        rintro e _ ⟨rfl, rfl⟩
        go_wp2_with fail
        refine CO.out.mono ?_
        rintro e _ ⟨rfl, rfl⟩
        go_wp2_with fail
        go_quiet (fail)
        go_wp2_with fail
        refine bodyPost_ret (by simp [results, Try.results22, go_sem]; rfl) rfl ?_
        exact ⟨by rw [HT.out]; rfl, ext_trans X.out (ext_drewN _ _)⟩
      | cons r S =>
        simp only [List.map_cons, frontV, eltR, pt] at he
        subst he
        have hr : r ∈ R := by rw [hR]; simp
        obtain ⟨k, y, L, b, o, m, hL, hm, hk, hcr, d0, d1, d2, i1, i2, df⟩ := Q.look1 HS.out hr
        have CO := hid (of_row Q hr)
        have hnx : tv = tellV (some (r.cl.n, y)) := by
          rw [← HTV.out, hR]
          have := next_turned (p := p) (d := r.cl) (rest := r.cl :: S.map Row.cl) (rest' := S.map Row.cl ++ [r0.cl]) hlow rfl
          rw [DR.serve_cons hL] at this
          exact congrArg (fun z => tellV z.2) this
        have HT := hid hnx
        obtain ⟨cr, hc⟩ : ∃ cr, r.cl.cr = cr := ⟨_, rfl⟩
        rw [hc] at d1 hcr
        have hz : k ≤ cr + p.quantum := by omega
        clear hL hnx hR Q x hm hlow hc
        go_wp2_with fail
        refine CO.out.mono ?_
        rintro e _ ⟨rfl, rfl⟩
        go_wp2_with fail
        go_quiet (fail)
        go_wp2_with fail
        refine bodyPost_ret (by simp [results, Try.results22, go_sem]; rfl) rfl ?_
        exact ⟨by rw [HT.out]; rfl, ext_trans X.out (ext_drewN _ _)⟩
end
end Go.Proofs.Ytkogagpahidenaa

/- Layer 23: CacheTrue. (Printed by gen_chcaj.py.) -/
import Derived.Test.YtcddfenhkljpeaaChcAi
import Derived.Test.YtcddfenhkljpeaaChcV
import Derived.Test.YtcddfenhkljpeaaKPick
import Derived.Test.YtcddfenhkljpeaaKStep
namespace Go.Proofs.Ytcddfenhkljpeaa
open Go.BK Go.BK.CH Go.BK.NM Go.RowKit Go.Maps
set_option linter.unusedVariables false
set_option linter.unusedSimpArgs false
theorem info_put : (Try.prog.info? 69).map (fun i => (i.zero, i.size, i.bytes)) = some (some ((.agg #[.string ⟨#[]⟩, .int .i64 0, .string ⟨#[]⟩, .int .i64 0, .int .i64 0, .int .i64 0, .slice none 0 0, .bool false, .int .i64 0, .int .i64 0, .int .i64 0] : Value)), 11, 120) := by kernel_rfl
theorem info_partsP {o : Option TypeInfo} {z : Option Value} {s b : Nat} (h : o.map (fun i => (i.zero, i.size, i.bytes)) = some (z, s, b)) : ∃ i, o = some i ∧ i.zero = z ∧ i.size = s ∧ i.bytes = b := by
  cases o with
  | none => cases h
  | some i => simp at h; exact ⟨i, rfl, h.1, h.2.1, h.2.2⟩
def okP (v : Value) : Prop := v.oneCell' = true
theorem zeroP : ∀ u ∈ (.agg #[.string ⟨#[]⟩, .int .i64 0, .string ⟨#[]⟩, .int .i64 0, .int .i64 0, .int .i64 0, .slice none 0 0, .bool false, .int .i64 0, .int .i64 0, .int .i64 0] : Value).cells.toList, okP u := by
  have h : ((.agg #[.string ⟨#[]⟩, .int .i64 0, .string ⟨#[]⟩, .int .i64 0, .int .i64 0, .int .i64 0, .slice none 0 0, .bool false, .int .i64 0, .int .i64 0, .int .i64 0] : Value).cells.toList.all (fun v => v.oneCell')) = true := by rfl
  exact fun u hu => List.all_eq_true.1 h u hu
theorem okP_cells (m : Pm) : ∀ u ∈ cellsP m, okP u := by
  intro u hu
  simp [cellsP] at hu
  rcases hu with rfl | rfl | rfl | rfl | rfl | rfl | rfl | rfl | rfl | rfl | rfl <;> rfl
theorem cellsPM_app (M : List Pm) (m : Pm) : cellsPM M ++ cellsP m = cellsPM (M ++ [m]) := by simp [cellsPM]
/-- A cache, and what was put, in memory of its own. -/
def Up (B : Nat) (w : World) (A : Option Addr) (j : Nat) : Prop := B ≤ j ∧ j < w.heap.size ∧ blk A ≠ some j
structure PutC (w0 w : World) (g : Nat) (most : Int) (s : StC) (A : Option Addr) (c : Nat) (P : List Pm) : Prop where
  q : Qc (Up w0.heap.size w A) w g most s
  o : OwnG okP w w0.heap.size 69 11 A P.length c (cellsPM P)
  x : Ext w0 w
section
variable {w0 w w' : World} {g : Nat} {most : Int} {s s' : StC} {A A' : Option Addr} {c c' : Nat} {P P' : List Pm}
theorem ext_shy {U : Nat → Prop} (x : Ext w0 w) (e : Shy U w w') (h : ∀ k, U k → w0.heap.size ≤ k) : Ext w0 w' :=
  ((Shy.of_ext (U := fun k => w0.heap.size ≤ k) x).trans e fun k _ u => h k u).below (Nat.le_refl _) fun k hk e => by omega
theorem PutC.ext (h : PutC w0 w g most s A c P) (e : Ext w w') : PutC w0 w' g most s A c P :=
  ⟨(h.q.ext e).mono fun j hj u => ⟨u.1, Nat.lt_of_lt_of_le u.2.1 e.size, u.2.2⟩, h.o.ext e, ext_trans h.x e⟩
theorem PutC.get (h : PutC w0 w g most s A c P) (q : Qc (Up w0.heap.size w A) w' g most s') (e : Shy (Up w0.heap.size w A) w w') : PutC w0 w' g most s' A c P :=
  ⟨q.mono fun j hj u => ⟨u.1, Nat.lt_of_lt_of_le u.2.1 e.size, u.2.2⟩, e.ownG h.o fun k hk u => u.2.2 hk, ext_shy h.x e fun k u => u.1⟩
theorem PutC.put (h : PutC w0 w g most s A c P) (q : Qc (More (Up w0.heap.size w A) w) w' g most s') (e : Shy (Up w0.heap.size w A) w w') : PutC w0 w' g most s' A c P := by
  refine ⟨q.mono fun j hj u => ?_, e.ownG h.o fun k hk u => u.2.2 hk, ext_shy h.x e fun k u => u.1⟩
  rcases u with u | u
  · exact ⟨u.1, hj, u.2.2⟩
  · exact ⟨Nat.le_trans h.x.size u, hj, fun e => by have := (h.o.lt j e).2; omega⟩
theorem PutC.app (h : PutC w0 w g most s A c P) (o : OwnG okP w' w0.heap.size 69 11 A' P'.length c' (cellsPM P')) (e : w.grownBy w' (blk A)) (n : ∀ b, blk A' = some b → blk A = some b ∨ w.heap.size ≤ b) : PutC w0 w' g most s A' c' P' := by
  refine ⟨(h.q.shy (shy_of_grown e) fun k hk u e => u.2.2 e).mono fun j hj u => ⟨u.1, hj, fun e => ?_⟩, o, ext_shy h.x (shy_of_grown e) fun k u => (h.o.lt k u).1⟩
  rcases n j e with n | n
  · exact u.2.2 n
  · have := u.2.1
    omega
end
theorem getD_actM {M : List Am} {k : Nat} (h : k < M.length) : M.getD k am0 ∈ M := by simp [List.getD, h]
theorem PutC.step {w0 w wz w' : World} {g : Nat} {most : Int} {s s' : StC} {A : Option Addr} {c : Nat} {P : List Pm} (h : PutC w0 w g most s A c P) (e1 : Ext w wz) (q : Qc (More (Up w0.heap.size w A) wz) w' g most s') (e : Shy (Up w0.heap.size w A) wz w') : PutC w0 w' g most s' A c P := by
  have hz := e1.size
  refine ⟨q.mono fun j hj u => ?_, e.ownG (h.o.ext e1) fun k hk u => u.2.2 hk, ext_shy (ext_trans h.x e1) e fun k u => u.1⟩
  rcases u with u | u
  · exact ⟨u.1, hj, u.2.2⟩
  · exact ⟨Nat.le_trans h.x.size (Nat.le_trans hz u), hj, fun e => by have := (h.o.lt j e).2; omega⟩
theorem chk_ttl {s : SetS} (h : chkS s = 0) : 0 ≤ s.ttl ∧ s.ttl ≤ 2147483648 := by
  unfold chkS at h
  split at h
  · rename_i g
    have := g.2.2.2.1
    omega
  · cases h
/-- What is so between two rounds. -/
def TrRel (w : World) (g : Nat) (most : Int) (M : List Am) (pv iv : Value) (wr : World) : Prop :=
  ∃ (k : Nat) (A : Option Addr) (c : Nat) (s : StC) (P : List Pm) (t : Int), k ≤ M.length ∧ iv = .int .i64 k ∧ pv = .slice A P.length c ∧ P.length ≤ k ∧ PutC w wr g most s A c P ∧
    (∀ m ∈ P, WfP m.p ∧ RdG w 1 m.A m.p.s.data.length m.d (tvs m.p.s.data)) ∧ TrueInv s P t ∧ (0 < k → t = (M.getD (k - 1) am0).a.now ∧ inTime t) ∧ (k = 0 → t = 0)
theorem putsR_of {w0 w : World} {g : Nat} {most : Int} {s : StC} {A : Option Addr} {c : Nat} {P : List Pm} (h : PutC w0 w g most s A c P) (hP : ∀ m ∈ P, WfP m.p ∧ RdG w0 1 m.A m.p.s.data.length m.d (tvs m.p.s.data)) {w' : World} (x : Ext w w') : PutsR w' A c P :=
  ⟨(h.o.rd).ext x, fun m hm => ⟨(hP m hm).1, (hP m hm).2.ext (ext_trans h.x x)⟩⟩
/-- What is bounded, where Long says no. -/
theorem long_small {M : List Am} (h : longL M = false) : M.length ≤ 80 ∧ ∀ m ∈ M, m.a.nm.length ≤ 2000 ∧ m.a.s.nm.length ≤ 2000 ∧ m.a.s.data.length ≤ 70 ∧ ∀ d ∈ m.a.s.data, d.length ≤ 2000 := by
  unfold longL at h
  rw [Bool.or_eq_false_iff] at h
  refine ⟨by have := h.2; simp at this; omega, fun m hm => ?_⟩
  have h1 := List.any_eq_false.1 h.1 m hm
  unfold longA longSet at h1
  simp only [Bool.or_eq_true, decide_eq_true_eq, not_or] at h1
  obtain ⟨⟨h2, h3⟩, h4⟩ := h1
  refine ⟨by omega, by omega, by omega, fun d hd => ?_⟩
  have h5 : d.length ≤ (m.a.s.data.map List.length).sum := by
    clear h2 h3 h4 hm
    generalize m.a.s.data = L at hd
    induction L with
    | nil => cases hd
    | cons a L ih =>
      rw [List.map_cons, List.sum_cons]
      rcases List.mem_cons.1 hd with rfl | hd
      · omega
      · have := ih hd; omega
  omega
set_option maxHeartbeats 16000000 in
set_option maxRecDepth 100000 in
theorem true_walk {A : Option Addr} {c : Nat} {M : List Am} (most : Int) (w : World) (h1 : -9223372036854775808 ≤ most ∧ most ≤ 9223372036854775807) (hM : ActR w A c M) :
    Calls Try.prog 9 #[.int .i64 most, .slice A M.length c] w fun e w' => e = .returned (.bool true) ∧ Ext w w' := by
  obtain ⟨n, hn⟩ : ∃ n, M.length = n := ⟨_, rfl⟩
  have hn9 := hM.1.n_le
  have KN := hid (known_walk w)
  obtain ⟨lg, hlg⟩ : ∃ lg, longL M = lg := ⟨_, rfl⟩
  have LI := fun W (x : Ext w W) => long_in (hM.ext x)
  rw [hlg] at LI
  rw [hn] at hn9 LI ⊢
  have LI := hid LI
  have HM := hid hM
  have HN := hid hn
  have HLG := hid hlg
  obtain ⟨i0, hi, hz0, hz1, hz2⟩ := info_partsP info_put
  clear hM hn hlg
  go_enter Try.func9, Try.ntmps9
  go_wp2_with fail
  refine KN.out.mono ?_
  rintro e w0 ⟨rfl, x0⟩
  have X0 : Hid (Ext w w0) := hid x0
  clear x0 KN
  by_cases hms : ¬ (1 ≤ most ∧ most ≤ 4096)
  · have CN := hid (new_bad most w0 (by omega))
    clear hms
    go_wp2_with fail
    refine CN.out.mono ?_
    rintro e _ ⟨rfl, rfl⟩
    go_wp2_with fail
    go_ret
    exact ⟨rfl, X0.out⟩
  have hms : 1 ≤ most ∧ most ≤ 4096 := Classical.not_not.1 hms
  have C0 := c_new most w0 hms
  simp only [pt] at C0
  have C0 := hid C0
  go_wp2_with fail
  refine C0.out.mono ?_
  rintro e w1 ⟨g, rfl, q1, x1⟩
  have P1 : Hid (PutC w w1 g most ⟨0, []⟩ none 0 []) := hid ⟨q1.mono (fun k h e => ⟨by have := X0.out.size; omega, h, by simp⟩), OwnG.nil _ _ _ _ _, ext_trans X0.out x1⟩
  clear q1 x1 C0 X0
  go_wp2_with fail
  refine (LI.out _ P1.out.x).mono ?_
  rintro e w2 ⟨rfl, x2⟩
  have P2 := hid (P1.out.ext x2)
  clear x2 P1 LI
  cases lg with
  | true =>
    go_wp2_with fail
    go_ret
    exact ⟨rfl, P2.out.x⟩
  | false =>
    by_cases h60 : 60 < n
    · have i1 : decide ((60 : Int) < (n : Int)) = true := by simp; omega
      go_wp2_with fail
      go_ret
      exact ⟨rfl, P2.out.x⟩
    have i1 : decide ((60 : Int) < (n : Int)) = false := by simp; omega
    have SM := hid (long_small HLG.out)
    have hn60 : n ≤ 60 := by omega
    clear h60
    go_wp2_with fail
    clear i1
    go_loopw [8, 9] (fun pv iv wr => TrRel w g most M pv iv wr) (fun _ iv _ => n - (intOf iv).toNat)
    case atStart => exact ⟨0, none, 0, _, [], 0, Nat.zero_le _, rfl, rfl, Nat.le_refl _, P2.out, by simp, inv_nil, by omega, fun _ => rfl⟩
    case round =>
      obtain ⟨k, A1, c1, s, P, t, hk, rfl, rfl, hPk, pc, hP, inv, ht, ht0⟩ := hrel
      rw [HN.out] at hk
      by_cases hlt : k < n
      · have j1 : (k : Int) < (n : Int) := by omega
        have hkM : k < M.length := by rw [HN.out]; exact hlt
        obtain ⟨b, o, rfl, hb, hc⟩ := (HM.out.ext pc.x).at_ (by rw [HN.out]; omega)
        obtain ⟨m, hmm, hme, ha⟩ := hc k hkM
        obtain ⟨wf, rt⟩ := HM.out.2 m hmm
        obtain ⟨sm1, sm2, sm3, sm4⟩ := SM.out.2 m hmm
        obtain ⟨xn, hxn⟩ : ∃ xn, str m.a.nm = xn := ⟨_, rfl⟩
        obtain ⟨xsn, hxsn⟩ : ∃ xsn, str m.a.s.nm = xsn := ⟨_, rfl⟩
        obtain ⟨xl, hxl⟩ : ∃ xl, m.a.s.data.length = xl := ⟨_, rfl⟩
        have c0 := ha 0 _ rfl
        have c1' := ha 1 _ rfl
        have c2 := ha 2 _ rfl
        have c3 := ha 3 _ rfl
        have c4 := ha 4 _ rfl
        have c5 := ha 5 _ rfl
        have c6 := ha 6 _ rfl
        have c7 := ha 7 _ rfl
        have c8 := ha 8 _ rfl
        have c9 := ha 9 _ rfl
        have c10 := ha 10 _ rfl
        rw [hxn] at c5
        rw [hxsn] at c6
        rw [hxl] at c10
        simp only [Nat.add_zero] at c0
        -- the one ahead
        obtain ⟨kq, pn, hkq, hpn⟩ : ∃ (kq : Nat) (pn : Int), (0 < k → k = kq + 1 ∧ t = pn) ∧ (0 < k → wr.cell? ⟨b, o + kq * 11 + 1, none⟩ = some (.int .i64 pn)) := by
          by_cases h0 : 0 < k
          · obtain ⟨m', _, hm', ha'⟩ := hc (k - 1) (by omega)
            refine ⟨k - 1, m'.a.now, fun _ => ⟨by omega, ?_⟩, fun _ => ha' 1 _ rfl⟩
            rw [(ht h0).1, hm']
          · exact ⟨0, 0, fun h => absurd h h0, fun h => absurd h h0⟩
        have xp := ext_alloc wr (.cells #[.int .i64 m.a.kind, .int .i64 m.a.now, .int .i64 m.a.rank, .int .i64 m.a.type, .int .i64 m.a.ttl, .string xn, .string xsn, .int .i64 m.a.s.ty, .int .i64 m.a.s.cl, .int .i64 m.a.s.ttl, .slice m.A xl m.d] 52)
        have bx := Blk.new wr 52 #[.int .i64 m.a.kind, .int .i64 m.a.now, .int .i64 m.a.rank, .int .i64 m.a.type, .int .i64 m.a.ttl, .string xn, .string xsn, .int .i64 m.a.s.ty, .int .i64 m.a.s.cl, .int .i64 m.a.s.ttl, .slice m.A xl m.d]
        obtain ⟨wp, hwp⟩ : ∃ wp, wr.alloc (.cells #[.int .i64 m.a.kind, .int .i64 m.a.now, .int .i64 m.a.rank, .int .i64 m.a.type, .int .i64 m.a.ttl, .string xn, .string xsn, .int .i64 m.a.s.ty, .int .i64 m.a.s.cl, .int .i64 m.a.s.ttl, .slice m.A xl m.d] 52) = wp := ⟨_, rfl⟩
        obtain ⟨gx, hgx⟩ : ∃ gx, wr.heap.size = gx := ⟨_, rfl⟩
        have PC0 := hid pc
        rw [hwp] at xp bx
        rw [hgx] at bx
        have XP := hid xp
        have BX := hid bx
        have HWP := hid hwp
        have HGX := hid hgx
        have HP := hid hP
        have INV := hid inv
        have HT := hid ht
        have HT0 := hid ht0
        have HME := hid hme
        have HXN := hid hxn
        have HXSN := hid hxsn
        have HXL := hid hxl
        have HWF := hid wf
        have HRT := hid rt
        have SM4 := hid sm4
        have HKQ := hid hkq
        have HPN := hid (fun (h : 0 < k) => (xp.cell (p := ⟨b, o + kq * 11 + 1, none⟩) hb).trans (hpn h))
        have HB2 := hid (Nat.lt_of_lt_of_le hb xp.size)
        clear hc ha hmm hme hxn hxsn hxl wf rt sm4 hP inv ht ht0 pc xp bx hwp hgx hkq hpn hb
        go_upto_region 12 with (fail)
        rw [HWP.out, HGX.out]
        clear c0 c1' c2 c3 c4 c5 c6 c7 c8 c9 c10
        by_cases hlow : m.a.now < 0
        · have d1 : decide (m.a.now < 0) = true := by simpa using hlow
          have KEEP : Hid (∀ W, Ext wp W → W.cell? ⟨gx, 1, none⟩ = some (.int .i64 m.a.now)) := hid (fun W y => (BX.out.ext y).cell 1)
          clear hlow
          refine wp_region_noPanic ?_
          refine region_E (S := fun W => W.cell? ⟨gx, 1, none⟩ = some (.int .i64 m.a.now)) 22 (by kernel_rfl) (by kernel_rfl) (by kernel_rfl) ?_
          refine EG_take 0 (v := ?v1) (by simp only [List.getElem?_toArray, List.getElem?_cons_succ, List.getElem?_cons_zero]; rfl) (by kernel_rfl) (by kernel_rfl) (by decide) (fun _ _ _ h => h) (Or.inl ⟨by rfl, ?hy1⟩) (KEEP.out _ (ext_drew _)) ?rest1
          case hy1 => intro W hSW; (try dsimp only at hSW); obtain e0 := hSW; go_simp <;> with_reducible rfl
          try simp only [Act.put, List.setIfInBounds_toArray, List.set_cons_zero, List.set_cons_succ]
          refine EG_take 1 (v := ?v2) (by simp only [List.getElem?_toArray, List.getElem?_cons_succ, List.getElem?_cons_zero]; rfl) (by kernel_rfl) (by kernel_rfl) (by decide) (fun _ _ _ h => h) (Or.inl ⟨by rfl, ?hy2⟩) (KEEP.out _ (ext_drew _)) ?rest2
          case hy2 => intro W hSW; (try dsimp only at hSW); obtain e0 := hSW; go_simp <;> with_reducible rfl
          try simp only [Act.put, List.setIfInBounds_toArray, List.set_cons_zero, List.set_cons_succ]
          refine EG_take 2 (v := ?v3) (by simp only [List.getElem?_toArray, List.getElem?_cons_succ, List.getElem?_cons_zero]; rfl) (by kernel_rfl) (by kernel_rfl) (by decide) (fun _ _ _ h => h) (Or.inl ⟨by rfl, ?hy3⟩) (KEEP.out _ (ext_drew _)) ?rest3
          case hy3 => intro W hSW; (try dsimp only at hSW); obtain e0 := hSW; go_simp <;> with_reducible rfl
          try simp only [Act.put, List.setIfInBounds_toArray, List.set_cons_zero, List.set_cons_succ]
          refine EG_take 3 (v := ?v4) (by simp only [List.getElem?_toArray, List.getElem?_cons_succ, List.getElem?_cons_zero]; rfl) (by kernel_rfl) (by kernel_rfl) (by decide) (fun _ _ _ h => h) (Or.inl ⟨by rfl, ?hy4⟩) (KEEP.out _ (ext_drew _)) ?rest4
          case hy4 => intro W hSW; (try dsimp only at hSW); obtain e0 := hSW; go_simp <;> with_reducible rfl
          try simp only [Act.put, List.setIfInBounds_toArray, List.set_cons_zero, List.set_cons_succ]
          refine EG_take 4 (v := undef) (by simp only [List.getElem?_toArray, List.getElem?_cons_succ, List.getElem?_cons_zero]; rfl) (by kernel_rfl) (by kernel_rfl) (by decide) (fun _ _ _ h => h) (Or.inr ⟨by rfl, rfl⟩) (KEEP.out _ (ext_drew _)) ?rest5
          try simp only [Act.put, List.setIfInBounds_toArray, List.set_cons_zero, List.set_cons_succ]
          refine EG_take 5 (v := undef) (by simp only [List.getElem?_toArray, List.getElem?_cons_succ, List.getElem?_cons_zero]; rfl) (by kernel_rfl) (by kernel_rfl) (by decide) (fun _ _ _ h => h) (Or.inr ⟨by rfl, rfl⟩) (KEEP.out _ (ext_drew _)) ?rest6
          try simp only [Act.put, List.setIfInBounds_toArray, List.set_cons_zero, List.set_cons_succ]
          refine EG_take 6 (v := undef) (by simp only [List.getElem?_toArray, List.getElem?_cons_succ, List.getElem?_cons_zero]; rfl) (by kernel_rfl) (by kernel_rfl) (by decide) (fun _ _ _ h => h) (Or.inr ⟨by rfl, rfl⟩) (KEEP.out _ (ext_drew _)) ?rest7
          try simp only [Act.put, List.setIfInBounds_toArray, List.set_cons_zero, List.set_cons_succ]
          refine EG_take 7 (v := ?v8) (by simp only [List.getElem?_toArray, List.getElem?_cons_succ, List.getElem?_cons_zero]; rfl) (by kernel_rfl) (by kernel_rfl) (by decide) (fun _ _ _ h => h) (Or.inl ⟨by rfl, ?hy8⟩) (KEEP.out _ (ext_drew _)) ?rest8
          case hy8 => intro W hSW; (try dsimp only at hSW); obtain e0 := hSW; go_simp <;> with_reducible rfl
          try simp only [Act.put, List.setIfInBounds_toArray, List.set_cons_zero, List.set_cons_succ]
          refine EG_take 8 (v := ?v9) (by simp only [List.getElem?_toArray, List.getElem?_cons_succ, List.getElem?_cons_zero]; rfl) (by kernel_rfl) (by kernel_rfl) (by decide) (fun _ _ _ h => h) (Or.inl ⟨by rfl, ?hy9⟩) (KEEP.out _ (ext_drew _)) ?rest9
          case hy9 => intro W hSW; (try dsimp only at hSW); obtain e0 := hSW; go_simp <;> with_reducible rfl
          try simp only [Act.put, List.setIfInBounds_toArray, List.set_cons_zero, List.set_cons_succ]
          refine EG_take 9 (v := undef) (by simp only [List.getElem?_toArray, List.getElem?_cons_succ, List.getElem?_cons_zero]; rfl) (by kernel_rfl) (by kernel_rfl) (by decide) (fun _ _ _ h => h) (Or.inr ⟨by rfl, rfl⟩) (KEEP.out _ (ext_drew _)) ?rest10
          try simp only [Act.put, List.setIfInBounds_toArray, List.set_cons_zero, List.set_cons_succ]
          refine EG_take 10 (v := undef) (by simp only [List.getElem?_toArray, List.getElem?_cons_succ, List.getElem?_cons_zero]; rfl) (by kernel_rfl) (by kernel_rfl) (by decide) (fun _ _ _ h => h) (Or.inr ⟨by rfl, rfl⟩) (KEEP.out _ (ext_drew _)) ?rest11
          try simp only [Act.put, List.setIfInBounds_toArray, List.set_cons_zero, List.set_cons_succ]
          refine EG_take 11 (v := undef) (by simp only [List.getElem?_toArray, List.getElem?_cons_succ, List.getElem?_cons_zero]; rfl) (by kernel_rfl) (by kernel_rfl) (by decide) (fun _ _ _ h => h) (Or.inr ⟨by rfl, rfl⟩) (KEEP.out _ (ext_drew _)) ?rest12
          try simp only [Act.put, List.setIfInBounds_toArray, List.set_cons_zero, List.set_cons_succ]
          refine EG_take 12 (v := undef) (by simp only [List.getElem?_toArray, List.getElem?_cons_succ, List.getElem?_cons_zero]; rfl) (by kernel_rfl) (by kernel_rfl) (by decide) (fun _ _ _ h => h) (Or.inr ⟨by rfl, rfl⟩) (KEEP.out _ (ext_drew _)) ?rest13
          try simp only [Act.put, List.setIfInBounds_toArray, List.set_cons_zero, List.set_cons_succ]
          refine EG_take 13 (v := undef) (by simp only [List.getElem?_toArray, List.getElem?_cons_succ, List.getElem?_cons_zero]; rfl) (by kernel_rfl) (by kernel_rfl) (by decide) (fun _ _ _ h => h) (Or.inr ⟨by rfl, rfl⟩) (KEEP.out _ (ext_drew _)) ?rest14
          try simp only [Act.put, List.setIfInBounds_toArray, List.set_cons_zero, List.set_cons_succ]
          refine EG_take 14 (v := undef) (by simp only [List.getElem?_toArray, List.getElem?_cons_succ, List.getElem?_cons_zero]; rfl) (by kernel_rfl) (by kernel_rfl) (by decide) (fun _ _ _ h => h) (Or.inr ⟨by rfl, rfl⟩) (KEEP.out _ (ext_drew _)) ?rest15
          try simp only [Act.put, List.setIfInBounds_toArray, List.set_cons_zero, List.set_cons_succ]
          refine EG_take 15 (v := undef) (by simp only [List.getElem?_toArray, List.getElem?_cons_succ, List.getElem?_cons_zero]; rfl) (by kernel_rfl) (by kernel_rfl) (by decide) (fun _ _ _ h => h) (Or.inr ⟨by rfl, rfl⟩) (KEEP.out _ (ext_drew _)) ?rest16
          try simp only [Act.put, List.setIfInBounds_toArray, List.set_cons_zero, List.set_cons_succ]
          refine EG_take 16 (v := undef) (by simp only [List.getElem?_toArray, List.getElem?_cons_succ, List.getElem?_cons_zero]; rfl) (by kernel_rfl) (by kernel_rfl) (by decide) (fun _ _ _ h => h) (Or.inr ⟨by rfl, rfl⟩) (KEEP.out _ (ext_drew _)) ?rest17
          try simp only [Act.put, List.setIfInBounds_toArray, List.set_cons_zero, List.set_cons_succ]
          refine EG_take 17 (v := undef) (by simp only [List.getElem?_toArray, List.getElem?_cons_succ, List.getElem?_cons_zero]; rfl) (by kernel_rfl) (by kernel_rfl) (by decide) (fun _ _ _ h => h) (Or.inr ⟨by rfl, rfl⟩) (KEEP.out _ (ext_drew _)) ?rest18
          try simp only [Act.put, List.setIfInBounds_toArray, List.set_cons_zero, List.set_cons_succ]
          refine EG_take 18 (v := undef) (by simp only [List.getElem?_toArray, List.getElem?_cons_succ, List.getElem?_cons_zero]; rfl) (by kernel_rfl) (by kernel_rfl) (by decide) (fun _ _ _ h => h) (Or.inr ⟨by rfl, rfl⟩) (KEEP.out _ (ext_drew _)) ?rest19
          try simp only [Act.put, List.setIfInBounds_toArray, List.set_cons_zero, List.set_cons_succ]
          refine EG_take 19 (v := undef) (by simp only [List.getElem?_toArray, List.getElem?_cons_succ, List.getElem?_cons_zero]; rfl) (by kernel_rfl) (by kernel_rfl) (by decide) (fun _ _ _ h => h) (Or.inr ⟨by rfl, rfl⟩) (KEEP.out _ (ext_drew _)) ?rest20
          try simp only [Act.put, List.setIfInBounds_toArray, List.set_cons_zero, List.set_cons_succ]
          refine EG_take 20 (v := undef) (by simp only [List.getElem?_toArray, List.getElem?_cons_succ, List.getElem?_cons_zero]; rfl) (by kernel_rfl) (by kernel_rfl) (by decide) (fun _ _ _ h => h) (Or.inr ⟨by rfl, rfl⟩) (KEEP.out _ (ext_drew _)) ?rest21
          try simp only [Act.put, List.setIfInBounds_toArray, List.set_cons_zero, List.set_cons_succ]
          refine EG_take 21 (v := undef) (by simp only [List.getElem?_toArray, List.getElem?_cons_succ, List.getElem?_cons_zero]; rfl) (by kernel_rfl) (by kernel_rfl) (by decide) (fun _ _ _ h => h) (Or.inr ⟨by rfl, rfl⟩) (KEEP.out _ (ext_drew _)) ?rest22
          try simp only [Act.put, List.setIfInBounds_toArray, List.set_cons_zero, List.set_cons_succ]
          refine EG_end (by kernel_rfl) (by simp only [List.getElem?_toArray, List.getElem?_cons_succ, List.getElem?_cons_zero]; rfl) ?_
          intro K hK0
          have hK := hid hK0
          clear hK0
          go_simp
          refine hK.out _ _ ?_
          clear hK K
          refine NoPanic.normal ?_
          go_wp2_with fail
          go_ret
          exact ⟨rfl, ext_trans (ext_trans PC0.out.x XP.out) (ext_drew _)⟩
        have d1 : decide (m.a.now < 0) = false := by simpa using hlow
        by_cases hhi : 1099511627776 < m.a.now
        · have d2 : decide (1099511627776 < m.a.now) = true := by simpa using hhi
          have KEEP : Hid (∀ W, Ext wp W → W.cell? ⟨gx, 1, none⟩ = some (.int .i64 m.a.now)) := hid (fun W y => (BX.out.ext y).cell 1)
          clear hlow hhi
          refine wp_region_noPanic ?_
          refine region_E (S := fun W => W.cell? ⟨gx, 1, none⟩ = some (.int .i64 m.a.now)) 22 (by kernel_rfl) (by kernel_rfl) (by kernel_rfl) ?_
          refine EG_take 0 (v := ?v23) (by simp only [List.getElem?_toArray, List.getElem?_cons_succ, List.getElem?_cons_zero]; rfl) (by kernel_rfl) (by kernel_rfl) (by decide) (fun _ _ _ h => h) (Or.inl ⟨by rfl, ?hy23⟩) (KEEP.out _ (ext_drew _)) ?rest23
          case hy23 => intro W hSW; (try dsimp only at hSW); obtain e0 := hSW; go_simp <;> with_reducible rfl
          try simp only [Act.put, List.setIfInBounds_toArray, List.set_cons_zero, List.set_cons_succ]
          refine EG_take 1 (v := ?v24) (by simp only [List.getElem?_toArray, List.getElem?_cons_succ, List.getElem?_cons_zero]; rfl) (by kernel_rfl) (by kernel_rfl) (by decide) (fun _ _ _ h => h) (Or.inl ⟨by rfl, ?hy24⟩) (KEEP.out _ (ext_drew _)) ?rest24
          case hy24 => intro W hSW; (try dsimp only at hSW); obtain e0 := hSW; go_simp <;> with_reducible rfl
          try simp only [Act.put, List.setIfInBounds_toArray, List.set_cons_zero, List.set_cons_succ]
          refine EG_take 2 (v := ?v25) (by simp only [List.getElem?_toArray, List.getElem?_cons_succ, List.getElem?_cons_zero]; rfl) (by kernel_rfl) (by kernel_rfl) (by decide) (fun _ _ _ h => h) (Or.inl ⟨by rfl, ?hy25⟩) (KEEP.out _ (ext_drew _)) ?rest25
          case hy25 => intro W hSW; (try dsimp only at hSW); obtain e0 := hSW; go_simp <;> with_reducible rfl
          try simp only [Act.put, List.setIfInBounds_toArray, List.set_cons_zero, List.set_cons_succ]
          refine EG_take 3 (v := ?v26) (by simp only [List.getElem?_toArray, List.getElem?_cons_succ, List.getElem?_cons_zero]; rfl) (by kernel_rfl) (by kernel_rfl) (by decide) (fun _ _ _ h => h) (Or.inl ⟨by rfl, ?hy26⟩) (KEEP.out _ (ext_drew _)) ?rest26
          case hy26 => intro W hSW; (try dsimp only at hSW); obtain e0 := hSW; go_simp <;> with_reducible rfl
          try simp only [Act.put, List.setIfInBounds_toArray, List.set_cons_zero, List.set_cons_succ]
          refine EG_take 4 (v := ?v27) (by simp only [List.getElem?_toArray, List.getElem?_cons_succ, List.getElem?_cons_zero]; rfl) (by kernel_rfl) (by kernel_rfl) (by decide) (fun _ _ _ h => h) (Or.inl ⟨by rfl, ?hy27⟩) (KEEP.out _ (ext_drew _)) ?rest27
          case hy27 => intro W hSW; (try dsimp only at hSW); obtain e0 := hSW; go_simp <;> with_reducible rfl
          try simp only [Act.put, List.setIfInBounds_toArray, List.set_cons_zero, List.set_cons_succ]
          refine EG_take 5 (v := ?v28) (by simp only [List.getElem?_toArray, List.getElem?_cons_succ, List.getElem?_cons_zero]; rfl) (by kernel_rfl) (by kernel_rfl) (by decide) (fun _ _ _ h => h) (Or.inl ⟨by rfl, ?hy28⟩) (KEEP.out _ (ext_drew _)) ?rest28
          case hy28 => intro W hSW; (try dsimp only at hSW); obtain e0 := hSW; go_simp <;> with_reducible rfl
          try simp only [Act.put, List.setIfInBounds_toArray, List.set_cons_zero, List.set_cons_succ]
          refine EG_take 6 (v := ?v29) (by simp only [List.getElem?_toArray, List.getElem?_cons_succ, List.getElem?_cons_zero]; rfl) (by kernel_rfl) (by kernel_rfl) (by decide) (fun _ _ _ h => h) (Or.inl ⟨by rfl, ?hy29⟩) (KEEP.out _ (ext_drew _)) ?rest29
          case hy29 => intro W hSW; (try dsimp only at hSW); obtain e0 := hSW; go_simp <;> with_reducible rfl
          try simp only [Act.put, List.setIfInBounds_toArray, List.set_cons_zero, List.set_cons_succ]
          refine EG_take 7 (v := ?v30) (by simp only [List.getElem?_toArray, List.getElem?_cons_succ, List.getElem?_cons_zero]; rfl) (by kernel_rfl) (by kernel_rfl) (by decide) (fun _ _ _ h => h) (Or.inl ⟨by rfl, ?hy30⟩) (KEEP.out _ (ext_drew _)) ?rest30
          case hy30 => intro W hSW; (try dsimp only at hSW); obtain e0 := hSW; go_simp <;> with_reducible rfl
          try simp only [Act.put, List.setIfInBounds_toArray, List.set_cons_zero, List.set_cons_succ]
          refine EG_take 8 (v := ?v31) (by simp only [List.getElem?_toArray, List.getElem?_cons_succ, List.getElem?_cons_zero]; rfl) (by kernel_rfl) (by kernel_rfl) (by decide) (fun _ _ _ h => h) (Or.inl ⟨by rfl, ?hy31⟩) (KEEP.out _ (ext_drew _)) ?rest31
          case hy31 => intro W hSW; (try dsimp only at hSW); obtain e0 := hSW; go_simp <;> with_reducible rfl
          try simp only [Act.put, List.setIfInBounds_toArray, List.set_cons_zero, List.set_cons_succ]
          refine EG_take 9 (v := undef) (by simp only [List.getElem?_toArray, List.getElem?_cons_succ, List.getElem?_cons_zero]; rfl) (by kernel_rfl) (by kernel_rfl) (by decide) (fun _ _ _ h => h) (Or.inr ⟨by rfl, rfl⟩) (KEEP.out _ (ext_drew _)) ?rest32
          try simp only [Act.put, List.setIfInBounds_toArray, List.set_cons_zero, List.set_cons_succ]
          refine EG_take 10 (v := undef) (by simp only [List.getElem?_toArray, List.getElem?_cons_succ, List.getElem?_cons_zero]; rfl) (by kernel_rfl) (by kernel_rfl) (by decide) (fun _ _ _ h => h) (Or.inr ⟨by rfl, rfl⟩) (KEEP.out _ (ext_drew _)) ?rest33
          try simp only [Act.put, List.setIfInBounds_toArray, List.set_cons_zero, List.set_cons_succ]
          refine EG_take 11 (v := undef) (by simp only [List.getElem?_toArray, List.getElem?_cons_succ, List.getElem?_cons_zero]; rfl) (by kernel_rfl) (by kernel_rfl) (by decide) (fun _ _ _ h => h) (Or.inr ⟨by rfl, rfl⟩) (KEEP.out _ (ext_drew _)) ?rest34
          try simp only [Act.put, List.setIfInBounds_toArray, List.set_cons_zero, List.set_cons_succ]
          refine EG_take 12 (v := undef) (by simp only [List.getElem?_toArray, List.getElem?_cons_succ, List.getElem?_cons_zero]; rfl) (by kernel_rfl) (by kernel_rfl) (by decide) (fun _ _ _ h => h) (Or.inr ⟨by rfl, rfl⟩) (KEEP.out _ (ext_drew _)) ?rest35
          try simp only [Act.put, List.setIfInBounds_toArray, List.set_cons_zero, List.set_cons_succ]
          refine EG_take 13 (v := undef) (by simp only [List.getElem?_toArray, List.getElem?_cons_succ, List.getElem?_cons_zero]; rfl) (by kernel_rfl) (by kernel_rfl) (by decide) (fun _ _ _ h => h) (Or.inr ⟨by rfl, rfl⟩) (KEEP.out _ (ext_drew _)) ?rest36
          try simp only [Act.put, List.setIfInBounds_toArray, List.set_cons_zero, List.set_cons_succ]
          refine EG_take 14 (v := undef) (by simp only [List.getElem?_toArray, List.getElem?_cons_succ, List.getElem?_cons_zero]; rfl) (by kernel_rfl) (by kernel_rfl) (by decide) (fun _ _ _ h => h) (Or.inr ⟨by rfl, rfl⟩) (KEEP.out _ (ext_drew _)) ?rest37
          try simp only [Act.put, List.setIfInBounds_toArray, List.set_cons_zero, List.set_cons_succ]
          refine EG_take 15 (v := undef) (by simp only [List.getElem?_toArray, List.getElem?_cons_succ, List.getElem?_cons_zero]; rfl) (by kernel_rfl) (by kernel_rfl) (by decide) (fun _ _ _ h => h) (Or.inr ⟨by rfl, rfl⟩) (KEEP.out _ (ext_drew _)) ?rest38
          try simp only [Act.put, List.setIfInBounds_toArray, List.set_cons_zero, List.set_cons_succ]
          refine EG_take 16 (v := undef) (by simp only [List.getElem?_toArray, List.getElem?_cons_succ, List.getElem?_cons_zero]; rfl) (by kernel_rfl) (by kernel_rfl) (by decide) (fun _ _ _ h => h) (Or.inr ⟨by rfl, rfl⟩) (KEEP.out _ (ext_drew _)) ?rest39
          try simp only [Act.put, List.setIfInBounds_toArray, List.set_cons_zero, List.set_cons_succ]
          refine EG_take 17 (v := undef) (by simp only [List.getElem?_toArray, List.getElem?_cons_succ, List.getElem?_cons_zero]; rfl) (by kernel_rfl) (by kernel_rfl) (by decide) (fun _ _ _ h => h) (Or.inr ⟨by rfl, rfl⟩) (KEEP.out _ (ext_drew _)) ?rest40
          try simp only [Act.put, List.setIfInBounds_toArray, List.set_cons_zero, List.set_cons_succ]
          refine EG_take 18 (v := undef) (by simp only [List.getElem?_toArray, List.getElem?_cons_succ, List.getElem?_cons_zero]; rfl) (by kernel_rfl) (by kernel_rfl) (by decide) (fun _ _ _ h => h) (Or.inr ⟨by rfl, rfl⟩) (KEEP.out _ (ext_drew _)) ?rest41
          try simp only [Act.put, List.setIfInBounds_toArray, List.set_cons_zero, List.set_cons_succ]
          refine EG_take 19 (v := undef) (by simp only [List.getElem?_toArray, List.getElem?_cons_succ, List.getElem?_cons_zero]; rfl) (by kernel_rfl) (by kernel_rfl) (by decide) (fun _ _ _ h => h) (Or.inr ⟨by rfl, rfl⟩) (KEEP.out _ (ext_drew _)) ?rest42
          try simp only [Act.put, List.setIfInBounds_toArray, List.set_cons_zero, List.set_cons_succ]
          refine EG_take 20 (v := undef) (by simp only [List.getElem?_toArray, List.getElem?_cons_succ, List.getElem?_cons_zero]; rfl) (by kernel_rfl) (by kernel_rfl) (by decide) (fun _ _ _ h => h) (Or.inr ⟨by rfl, rfl⟩) (KEEP.out _ (ext_drew _)) ?rest43
          try simp only [Act.put, List.setIfInBounds_toArray, List.set_cons_zero, List.set_cons_succ]
          refine EG_take 21 (v := undef) (by simp only [List.getElem?_toArray, List.getElem?_cons_succ, List.getElem?_cons_zero]; rfl) (by kernel_rfl) (by kernel_rfl) (by decide) (fun _ _ _ h => h) (Or.inr ⟨by rfl, rfl⟩) (KEEP.out _ (ext_drew _)) ?rest44
          try simp only [Act.put, List.setIfInBounds_toArray, List.set_cons_zero, List.set_cons_succ]
          refine EG_end (by kernel_rfl) (by simp only [List.getElem?_toArray, List.getElem?_cons_succ, List.getElem?_cons_zero]; rfl) ?_
          intro K hK0
          have hK := hid hK0
          clear hK0
          go_simp
          refine hK.out _ _ ?_
          clear hK K
          refine NoPanic.normal ?_
          go_wp2_with fail
          go_ret
          exact ⟨rfl, ext_trans (ext_trans PC0.out.x XP.out) (ext_drew _)⟩
        have d2 : decide (1099511627776 < m.a.now) = false := by simpa using hhi
        have hin : inTime m.a.now := ⟨by omega, by omega⟩
        have pass : ∀ (G : Prop) (P0 : World → Prop), True := fun _ _ => trivial
        clear pass
        by_cases hk0 : 0 < k
        · have d3 : decide ((0 : Int) < (k : Int)) = true := by simp; omega
          obtain ⟨hkk, htp⟩ := HKQ.out hk0
          have PN := HPN.out hk0
          have w1' : wrap64 ((k : Int) - 1) = (kq : Int) := by rw [show (k : Int) - 1 = (kq : Int) from by omega]; exact IntWalk.wrap64_in _ (by omega)
          have w2' : IntKind.i64.wrap ((k : Int) - 1) = (kq : Int) := by rw [show (k : Int) - 1 = (kq : Int) from by omega]; exact IntWalk.i64_in _ (by omega)
          have hq1 : kq < n := by omega
          have hq2 : (kq : Int) < (n : Int) := by omega
          have hq3 : (0 : Int) ≤ (kq : Int) := by omega
          have HKK := hid hkk
          have KEEP : Hid (∀ W, Ext wp W → W.cell? ⟨gx, 1, none⟩ = some (.int .i64 m.a.now) ∧ W.cell? ⟨b, o + kq * 11 + 1, none⟩ = some (.int .i64 pn)) := hid (fun W y => by
            refine ⟨?_, (y.cell (p := ⟨b, o + kq * 11 + 1, none⟩) HB2.out).trans PN⟩
            exact (BX.out.ext y).cell 1)
          clear PN hkk
          by_cases hbk : m.a.now < pn
          · have d4 : decide (m.a.now < pn) = true := by simpa using hbk
            clear hlow hhi hbk htp
            refine wp_region_noPanic ?_
            refine region_E (S := fun W => W.cell? ⟨gx, 1, none⟩ = some (.int .i64 m.a.now) ∧ W.cell? ⟨b, o + kq * 11 + 1, none⟩ = some (.int .i64 pn)) 22 (by kernel_rfl) (by kernel_rfl) (by kernel_rfl) ?_
            refine EG_take 0 (v := ?v45) (by simp only [List.getElem?_toArray, List.getElem?_cons_succ, List.getElem?_cons_zero]; rfl) (by kernel_rfl) (by kernel_rfl) (by decide) (fun _ _ _ h => h) (Or.inl ⟨by rfl, ?hy45⟩) (KEEP.out _ (ext_drew _)) ?rest45
            case hy45 => intro W hSW; (try dsimp only at hSW); obtain ⟨e0, e1⟩ := hSW; go_simp <;> with_reducible rfl
            try simp only [Act.put, List.setIfInBounds_toArray, List.set_cons_zero, List.set_cons_succ]
            refine EG_take 1 (v := ?v46) (by simp only [List.getElem?_toArray, List.getElem?_cons_succ, List.getElem?_cons_zero]; rfl) (by kernel_rfl) (by kernel_rfl) (by decide) (fun _ _ _ h => h) (Or.inl ⟨by rfl, ?hy46⟩) (KEEP.out _ (ext_drew _)) ?rest46
            case hy46 => intro W hSW; (try dsimp only at hSW); obtain ⟨e0, e1⟩ := hSW; go_simp <;> with_reducible rfl
            try simp only [Act.put, List.setIfInBounds_toArray, List.set_cons_zero, List.set_cons_succ]
            refine EG_take 2 (v := ?v47) (by simp only [List.getElem?_toArray, List.getElem?_cons_succ, List.getElem?_cons_zero]; rfl) (by kernel_rfl) (by kernel_rfl) (by decide) (fun _ _ _ h => h) (Or.inl ⟨by rfl, ?hy47⟩) (KEEP.out _ (ext_drew _)) ?rest47
            case hy47 => intro W hSW; (try dsimp only at hSW); obtain ⟨e0, e1⟩ := hSW; go_simp <;> with_reducible rfl
            try simp only [Act.put, List.setIfInBounds_toArray, List.set_cons_zero, List.set_cons_succ]
            refine EG_take 3 (v := ?v48) (by simp only [List.getElem?_toArray, List.getElem?_cons_succ, List.getElem?_cons_zero]; rfl) (by kernel_rfl) (by kernel_rfl) (by decide) (fun _ _ _ h => h) (Or.inl ⟨by rfl, ?hy48⟩) (KEEP.out _ (ext_drew _)) ?rest48
            case hy48 => intro W hSW; (try dsimp only at hSW); obtain ⟨e0, e1⟩ := hSW; go_simp <;> with_reducible rfl
            try simp only [Act.put, List.setIfInBounds_toArray, List.set_cons_zero, List.set_cons_succ]
            refine EG_take 4 (v := ?v49) (by simp only [List.getElem?_toArray, List.getElem?_cons_succ, List.getElem?_cons_zero]; rfl) (by kernel_rfl) (by kernel_rfl) (by decide) (fun _ _ _ h => h) (Or.inl ⟨by rfl, ?hy49⟩) (KEEP.out _ (ext_drew _)) ?rest49
            case hy49 => intro W hSW; (try dsimp only at hSW); obtain ⟨e0, e1⟩ := hSW; go_simp <;> with_reducible rfl
            try simp only [Act.put, List.setIfInBounds_toArray, List.set_cons_zero, List.set_cons_succ]
            refine EG_take 5 (v := ?v50) (by simp only [List.getElem?_toArray, List.getElem?_cons_succ, List.getElem?_cons_zero]; rfl) (by kernel_rfl) (by kernel_rfl) (by decide) (fun _ _ _ h => h) (Or.inl ⟨by rfl, ?hy50⟩) (KEEP.out _ (ext_drew _)) ?rest50
            case hy50 => intro W hSW; (try dsimp only at hSW); obtain ⟨e0, e1⟩ := hSW; go_simp <;> with_reducible rfl
            try simp only [Act.put, List.setIfInBounds_toArray, List.set_cons_zero, List.set_cons_succ]
            refine EG_take 6 (v := ?v51) (by simp only [List.getElem?_toArray, List.getElem?_cons_succ, List.getElem?_cons_zero]; rfl) (by kernel_rfl) (by kernel_rfl) (by decide) (fun _ _ _ h => h) (Or.inl ⟨by rfl, ?hy51⟩) (KEEP.out _ (ext_drew _)) ?rest51
            case hy51 => intro W hSW; (try dsimp only at hSW); obtain ⟨e0, e1⟩ := hSW; go_simp <;> with_reducible rfl
            try simp only [Act.put, List.setIfInBounds_toArray, List.set_cons_zero, List.set_cons_succ]
            refine EG_take 7 (v := ?v52) (by simp only [List.getElem?_toArray, List.getElem?_cons_succ, List.getElem?_cons_zero]; rfl) (by kernel_rfl) (by kernel_rfl) (by decide) (fun _ _ _ h => h) (Or.inl ⟨by rfl, ?hy52⟩) (KEEP.out _ (ext_drew _)) ?rest52
            case hy52 => intro W hSW; (try dsimp only at hSW); obtain ⟨e0, e1⟩ := hSW; go_simp <;> with_reducible rfl
            try simp only [Act.put, List.setIfInBounds_toArray, List.set_cons_zero, List.set_cons_succ]
            refine EG_take 8 (v := ?v53) (by simp only [List.getElem?_toArray, List.getElem?_cons_succ, List.getElem?_cons_zero]; rfl) (by kernel_rfl) (by kernel_rfl) (by decide) (fun _ _ _ h => h) (Or.inl ⟨by rfl, ?hy53⟩) (KEEP.out _ (ext_drew _)) ?rest53
            case hy53 => intro W hSW; (try dsimp only at hSW); obtain ⟨e0, e1⟩ := hSW; go_simp <;> with_reducible rfl
            try simp only [Act.put, List.setIfInBounds_toArray, List.set_cons_zero, List.set_cons_succ]
            refine EG_take 9 (v := ?v54) (by simp only [List.getElem?_toArray, List.getElem?_cons_succ, List.getElem?_cons_zero]; rfl) (by kernel_rfl) (by kernel_rfl) (by decide) (fun _ _ _ h => h) (Or.inl ⟨by rfl, ?hy54⟩) (KEEP.out _ (ext_drew _)) ?rest54
            case hy54 => intro W hSW; (try dsimp only at hSW); obtain ⟨e0, e1⟩ := hSW; go_simp <;> with_reducible rfl
            try simp only [Act.put, List.setIfInBounds_toArray, List.set_cons_zero, List.set_cons_succ]
            refine EG_take 10 (v := ?v55) (by simp only [List.getElem?_toArray, List.getElem?_cons_succ, List.getElem?_cons_zero]; rfl) (by kernel_rfl) (by kernel_rfl) (by decide) (fun _ _ _ h => h) (Or.inl ⟨by rfl, ?hy55⟩) (KEEP.out _ (ext_drew _)) ?rest55
            case hy55 => intro W hSW; (try dsimp only at hSW); obtain ⟨e0, e1⟩ := hSW; go_simp <;> with_reducible rfl
            try simp only [Act.put, List.setIfInBounds_toArray, List.set_cons_zero, List.set_cons_succ]
            refine EG_take 11 (v := ?v56) (by simp only [List.getElem?_toArray, List.getElem?_cons_succ, List.getElem?_cons_zero]; rfl) (by kernel_rfl) (by kernel_rfl) (by decide) (fun _ _ _ h => h) (Or.inl ⟨by rfl, ?hy56⟩) (KEEP.out _ (ext_drew _)) ?rest56
            case hy56 => intro W hSW; (try dsimp only at hSW); obtain ⟨e0, e1⟩ := hSW; go_simp <;> with_reducible rfl
            try simp only [Act.put, List.setIfInBounds_toArray, List.set_cons_zero, List.set_cons_succ]
            refine EG_take 12 (v := ?v57) (by simp only [List.getElem?_toArray, List.getElem?_cons_succ, List.getElem?_cons_zero]; rfl) (by kernel_rfl) (by kernel_rfl) (by decide) (fun _ _ _ h => h) (Or.inl ⟨by rfl, ?hy57⟩) (KEEP.out _ (ext_drew _)) ?rest57
            case hy57 => intro W hSW; (try dsimp only at hSW); obtain ⟨e0, e1⟩ := hSW; go_simp <;> with_reducible rfl
            try simp only [Act.put, List.setIfInBounds_toArray, List.set_cons_zero, List.set_cons_succ]
            refine EG_take 13 (v := ?v58) (by simp only [List.getElem?_toArray, List.getElem?_cons_succ, List.getElem?_cons_zero]; rfl) (by kernel_rfl) (by kernel_rfl) (by decide) (fun _ _ _ h => h) (Or.inl ⟨by rfl, ?hy58⟩) (KEEP.out _ (ext_drew _)) ?rest58
            case hy58 => intro W hSW; (try dsimp only at hSW); obtain ⟨e0, e1⟩ := hSW; go_simp <;> with_reducible rfl
            try simp only [Act.put, List.setIfInBounds_toArray, List.set_cons_zero, List.set_cons_succ]
            refine EG_take 14 (v := ?v59) (by simp only [List.getElem?_toArray, List.getElem?_cons_succ, List.getElem?_cons_zero]; rfl) (by kernel_rfl) (by kernel_rfl) (by decide) (fun _ _ _ h => h) (Or.inl ⟨by rfl, ?hy59⟩) (KEEP.out _ (ext_drew _)) ?rest59
            case hy59 => intro W hSW; (try dsimp only at hSW); obtain ⟨e0, e1⟩ := hSW; go_simp <;> with_reducible rfl
            try simp only [Act.put, List.setIfInBounds_toArray, List.set_cons_zero, List.set_cons_succ]
            refine EG_take 15 (v := ?v60) (by simp only [List.getElem?_toArray, List.getElem?_cons_succ, List.getElem?_cons_zero]; rfl) (by kernel_rfl) (by kernel_rfl) (by decide) (fun _ _ _ h => h) (Or.inl ⟨by rfl, ?hy60⟩) (KEEP.out _ (ext_drew _)) ?rest60
            case hy60 => intro W hSW; (try dsimp only at hSW); obtain ⟨e0, e1⟩ := hSW; go_simp <;> with_reducible rfl
            try simp only [Act.put, List.setIfInBounds_toArray, List.set_cons_zero, List.set_cons_succ]
            refine EG_take 16 (v := ?v61) (by simp only [List.getElem?_toArray, List.getElem?_cons_succ, List.getElem?_cons_zero]; rfl) (by kernel_rfl) (by kernel_rfl) (by decide) (fun _ _ _ h => h) (Or.inl ⟨by rfl, ?hy61⟩) (KEEP.out _ (ext_drew _)) ?rest61
            case hy61 => intro W hSW; (try dsimp only at hSW); obtain ⟨e0, e1⟩ := hSW; go_simp <;> with_reducible rfl
            try simp only [Act.put, List.setIfInBounds_toArray, List.set_cons_zero, List.set_cons_succ]
            refine EG_take 17 (v := ?v62) (by simp only [List.getElem?_toArray, List.getElem?_cons_succ, List.getElem?_cons_zero]; rfl) (by kernel_rfl) (by kernel_rfl) (by decide) (fun _ _ _ h => h) (Or.inl ⟨by rfl, ?hy62⟩) (KEEP.out _ (ext_drew _)) ?rest62
            case hy62 => intro W hSW; (try dsimp only at hSW); obtain ⟨e0, e1⟩ := hSW; go_simp <;> with_reducible rfl
            try simp only [Act.put, List.setIfInBounds_toArray, List.set_cons_zero, List.set_cons_succ]
            refine EG_take 18 (v := ?v63) (by simp only [List.getElem?_toArray, List.getElem?_cons_succ, List.getElem?_cons_zero]; rfl) (by kernel_rfl) (by kernel_rfl) (by decide) (fun _ _ _ h => h) (Or.inl ⟨by rfl, ?hy63⟩) (KEEP.out _ (ext_drew _)) ?rest63
            case hy63 => intro W hSW; (try dsimp only at hSW); obtain ⟨e0, e1⟩ := hSW; go_simp <;> with_reducible rfl
            try simp only [Act.put, List.setIfInBounds_toArray, List.set_cons_zero, List.set_cons_succ]
            refine EG_take 19 (v := ?v64) (by simp only [List.getElem?_toArray, List.getElem?_cons_succ, List.getElem?_cons_zero]; rfl) (by kernel_rfl) (by kernel_rfl) (by decide) (fun _ _ _ h => h) (Or.inl ⟨by rfl, ?hy64⟩) (KEEP.out _ (ext_drew _)) ?rest64
            case hy64 => intro W hSW; (try dsimp only at hSW); obtain ⟨e0, e1⟩ := hSW; go_simp <;> with_reducible rfl
            try simp only [Act.put, List.setIfInBounds_toArray, List.set_cons_zero, List.set_cons_succ]
            refine EG_take 20 (v := ?v65) (by simp only [List.getElem?_toArray, List.getElem?_cons_succ, List.getElem?_cons_zero]; rfl) (by kernel_rfl) (by kernel_rfl) (by decide) (fun _ _ _ h => h) (Or.inl ⟨by rfl, ?hy65⟩) (KEEP.out _ (ext_drew _)) ?rest65
            case hy65 => intro W hSW; (try dsimp only at hSW); obtain ⟨e0, e1⟩ := hSW; go_simp <;> with_reducible rfl
            try simp only [Act.put, List.setIfInBounds_toArray, List.set_cons_zero, List.set_cons_succ]
            refine EG_take 21 (v := ?v66) (by simp only [List.getElem?_toArray, List.getElem?_cons_succ, List.getElem?_cons_zero]; rfl) (by kernel_rfl) (by kernel_rfl) (by decide) (fun _ _ _ h => h) (Or.inl ⟨by rfl, ?hy66⟩) (KEEP.out _ (ext_drew _)) ?rest66
            case hy66 => intro W hSW; (try dsimp only at hSW); obtain ⟨e0, e1⟩ := hSW; go_simp <;> with_reducible rfl
            try simp only [Act.put, List.setIfInBounds_toArray, List.set_cons_zero, List.set_cons_succ]
            refine EG_end (by kernel_rfl) (by simp only [List.getElem?_toArray, List.getElem?_cons_succ, List.getElem?_cons_zero]; rfl) ?_
            intro K hK0
            have hK := hid hK0
            clear hK0
            go_simp
            refine hK.out _ _ ?_
            clear hK K
            refine NoPanic.normal ?_
            go_wp2_with fail
            go_ret
            exact ⟨rfl, ext_trans (ext_trans PC0.out.x XP.out) (ext_drew _)⟩
          · have d4 : decide (m.a.now < pn) = false := by simpa using hbk
            have hup : t ≤ m.a.now := by omega
            clear hbk htp
            refine wp_region_noPanic ?_
            refine region_E (S := fun W => W.cell? ⟨gx, 1, none⟩ = some (.int .i64 m.a.now) ∧ W.cell? ⟨b, o + kq * 11 + 1, none⟩ = some (.int .i64 pn)) 22 (by kernel_rfl) (by kernel_rfl) (by kernel_rfl) ?_
            refine EG_take 0 (v := ?v67) (by simp only [List.getElem?_toArray, List.getElem?_cons_succ, List.getElem?_cons_zero]; rfl) (by kernel_rfl) (by kernel_rfl) (by decide) (fun _ _ _ h => h) (Or.inl ⟨by rfl, ?hy67⟩) (KEEP.out _ (ext_drew _)) ?rest67
            case hy67 => intro W hSW; (try dsimp only at hSW); obtain ⟨e0, e1⟩ := hSW; go_simp <;> with_reducible rfl
            try simp only [Act.put, List.setIfInBounds_toArray, List.set_cons_zero, List.set_cons_succ]
            refine EG_take 1 (v := ?v68) (by simp only [List.getElem?_toArray, List.getElem?_cons_succ, List.getElem?_cons_zero]; rfl) (by kernel_rfl) (by kernel_rfl) (by decide) (fun _ _ _ h => h) (Or.inl ⟨by rfl, ?hy68⟩) (KEEP.out _ (ext_drew _)) ?rest68
            case hy68 => intro W hSW; (try dsimp only at hSW); obtain ⟨e0, e1⟩ := hSW; go_simp <;> with_reducible rfl
            try simp only [Act.put, List.setIfInBounds_toArray, List.set_cons_zero, List.set_cons_succ]
            refine EG_take 2 (v := ?v69) (by simp only [List.getElem?_toArray, List.getElem?_cons_succ, List.getElem?_cons_zero]; rfl) (by kernel_rfl) (by kernel_rfl) (by decide) (fun _ _ _ h => h) (Or.inl ⟨by rfl, ?hy69⟩) (KEEP.out _ (ext_drew _)) ?rest69
            case hy69 => intro W hSW; (try dsimp only at hSW); obtain ⟨e0, e1⟩ := hSW; go_simp <;> with_reducible rfl
            try simp only [Act.put, List.setIfInBounds_toArray, List.set_cons_zero, List.set_cons_succ]
            refine EG_take 3 (v := ?v70) (by simp only [List.getElem?_toArray, List.getElem?_cons_succ, List.getElem?_cons_zero]; rfl) (by kernel_rfl) (by kernel_rfl) (by decide) (fun _ _ _ h => h) (Or.inl ⟨by rfl, ?hy70⟩) (KEEP.out _ (ext_drew _)) ?rest70
            case hy70 => intro W hSW; (try dsimp only at hSW); obtain ⟨e0, e1⟩ := hSW; go_simp <;> with_reducible rfl
            try simp only [Act.put, List.setIfInBounds_toArray, List.set_cons_zero, List.set_cons_succ]
            refine EG_take 4 (v := ?v71) (by simp only [List.getElem?_toArray, List.getElem?_cons_succ, List.getElem?_cons_zero]; rfl) (by kernel_rfl) (by kernel_rfl) (by decide) (fun _ _ _ h => h) (Or.inl ⟨by rfl, ?hy71⟩) (KEEP.out _ (ext_drew _)) ?rest71
            case hy71 => intro W hSW; (try dsimp only at hSW); obtain ⟨e0, e1⟩ := hSW; go_simp <;> with_reducible rfl
            try simp only [Act.put, List.setIfInBounds_toArray, List.set_cons_zero, List.set_cons_succ]
            refine EG_take 5 (v := ?v72) (by simp only [List.getElem?_toArray, List.getElem?_cons_succ, List.getElem?_cons_zero]; rfl) (by kernel_rfl) (by kernel_rfl) (by decide) (fun _ _ _ h => h) (Or.inl ⟨by rfl, ?hy72⟩) (KEEP.out _ (ext_drew _)) ?rest72
            case hy72 => intro W hSW; (try dsimp only at hSW); obtain ⟨e0, e1⟩ := hSW; go_simp <;> with_reducible rfl
            try simp only [Act.put, List.setIfInBounds_toArray, List.set_cons_zero, List.set_cons_succ]
            refine EG_take 6 (v := ?v73) (by simp only [List.getElem?_toArray, List.getElem?_cons_succ, List.getElem?_cons_zero]; rfl) (by kernel_rfl) (by kernel_rfl) (by decide) (fun _ _ _ h => h) (Or.inl ⟨by rfl, ?hy73⟩) (KEEP.out _ (ext_drew _)) ?rest73
            case hy73 => intro W hSW; (try dsimp only at hSW); obtain ⟨e0, e1⟩ := hSW; go_simp <;> with_reducible rfl
            try simp only [Act.put, List.setIfInBounds_toArray, List.set_cons_zero, List.set_cons_succ]
            refine EG_take 7 (v := ?v74) (by simp only [List.getElem?_toArray, List.getElem?_cons_succ, List.getElem?_cons_zero]; rfl) (by kernel_rfl) (by kernel_rfl) (by decide) (fun _ _ _ h => h) (Or.inl ⟨by rfl, ?hy74⟩) (KEEP.out _ (ext_drew _)) ?rest74
            case hy74 => intro W hSW; (try dsimp only at hSW); obtain ⟨e0, e1⟩ := hSW; go_simp <;> with_reducible rfl
            try simp only [Act.put, List.setIfInBounds_toArray, List.set_cons_zero, List.set_cons_succ]
            refine EG_take 8 (v := ?v75) (by simp only [List.getElem?_toArray, List.getElem?_cons_succ, List.getElem?_cons_zero]; rfl) (by kernel_rfl) (by kernel_rfl) (by decide) (fun _ _ _ h => h) (Or.inl ⟨by rfl, ?hy75⟩) (KEEP.out _ (ext_drew _)) ?rest75
            case hy75 => intro W hSW; (try dsimp only at hSW); obtain ⟨e0, e1⟩ := hSW; go_simp <;> with_reducible rfl
            try simp only [Act.put, List.setIfInBounds_toArray, List.set_cons_zero, List.set_cons_succ]
            refine EG_take 9 (v := ?v76) (by simp only [List.getElem?_toArray, List.getElem?_cons_succ, List.getElem?_cons_zero]; rfl) (by kernel_rfl) (by kernel_rfl) (by decide) (fun _ _ _ h => h) (Or.inl ⟨by rfl, ?hy76⟩) (KEEP.out _ (ext_drew _)) ?rest76
            case hy76 => intro W hSW; (try dsimp only at hSW); obtain ⟨e0, e1⟩ := hSW; go_simp <;> with_reducible rfl
            try simp only [Act.put, List.setIfInBounds_toArray, List.set_cons_zero, List.set_cons_succ]
            refine EG_take 10 (v := ?v77) (by simp only [List.getElem?_toArray, List.getElem?_cons_succ, List.getElem?_cons_zero]; rfl) (by kernel_rfl) (by kernel_rfl) (by decide) (fun _ _ _ h => h) (Or.inl ⟨by rfl, ?hy77⟩) (KEEP.out _ (ext_drew _)) ?rest77
            case hy77 => intro W hSW; (try dsimp only at hSW); obtain ⟨e0, e1⟩ := hSW; go_simp <;> with_reducible rfl
            try simp only [Act.put, List.setIfInBounds_toArray, List.set_cons_zero, List.set_cons_succ]
            refine EG_take 11 (v := ?v78) (by simp only [List.getElem?_toArray, List.getElem?_cons_succ, List.getElem?_cons_zero]; rfl) (by kernel_rfl) (by kernel_rfl) (by decide) (fun _ _ _ h => h) (Or.inl ⟨by rfl, ?hy78⟩) (KEEP.out _ (ext_drew _)) ?rest78
            case hy78 => intro W hSW; (try dsimp only at hSW); obtain ⟨e0, e1⟩ := hSW; go_simp <;> with_reducible rfl
            try simp only [Act.put, List.setIfInBounds_toArray, List.set_cons_zero, List.set_cons_succ]
            refine EG_take 12 (v := ?v79) (by simp only [List.getElem?_toArray, List.getElem?_cons_succ, List.getElem?_cons_zero]; rfl) (by kernel_rfl) (by kernel_rfl) (by decide) (fun _ _ _ h => h) (Or.inl ⟨by rfl, ?hy79⟩) (KEEP.out _ (ext_drew _)) ?rest79
            case hy79 => intro W hSW; (try dsimp only at hSW); obtain ⟨e0, e1⟩ := hSW; go_simp <;> with_reducible rfl
            try simp only [Act.put, List.setIfInBounds_toArray, List.set_cons_zero, List.set_cons_succ]
            refine EG_take 13 (v := ?v80) (by simp only [List.getElem?_toArray, List.getElem?_cons_succ, List.getElem?_cons_zero]; rfl) (by kernel_rfl) (by kernel_rfl) (by decide) (fun _ _ _ h => h) (Or.inl ⟨by rfl, ?hy80⟩) (KEEP.out _ (ext_drew _)) ?rest80
            case hy80 => intro W hSW; (try dsimp only at hSW); obtain ⟨e0, e1⟩ := hSW; go_simp <;> with_reducible rfl
            try simp only [Act.put, List.setIfInBounds_toArray, List.set_cons_zero, List.set_cons_succ]
            refine EG_take 14 (v := ?v81) (by simp only [List.getElem?_toArray, List.getElem?_cons_succ, List.getElem?_cons_zero]; rfl) (by kernel_rfl) (by kernel_rfl) (by decide) (fun _ _ _ h => h) (Or.inl ⟨by rfl, ?hy81⟩) (KEEP.out _ (ext_drew _)) ?rest81
            case hy81 => intro W hSW; (try dsimp only at hSW); obtain ⟨e0, e1⟩ := hSW; go_simp <;> with_reducible rfl
            try simp only [Act.put, List.setIfInBounds_toArray, List.set_cons_zero, List.set_cons_succ]
            refine EG_take 15 (v := ?v82) (by simp only [List.getElem?_toArray, List.getElem?_cons_succ, List.getElem?_cons_zero]; rfl) (by kernel_rfl) (by kernel_rfl) (by decide) (fun _ _ _ h => h) (Or.inl ⟨by rfl, ?hy82⟩) (KEEP.out _ (ext_drew _)) ?rest82
            case hy82 => intro W hSW; (try dsimp only at hSW); obtain ⟨e0, e1⟩ := hSW; go_simp <;> with_reducible rfl
            try simp only [Act.put, List.setIfInBounds_toArray, List.set_cons_zero, List.set_cons_succ]
            refine EG_take 16 (v := ?v83) (by simp only [List.getElem?_toArray, List.getElem?_cons_succ, List.getElem?_cons_zero]; rfl) (by kernel_rfl) (by kernel_rfl) (by decide) (fun _ _ _ h => h) (Or.inl ⟨by rfl, ?hy83⟩) (KEEP.out _ (ext_drew _)) ?rest83
            case hy83 => intro W hSW; (try dsimp only at hSW); obtain ⟨e0, e1⟩ := hSW; go_simp <;> with_reducible rfl
            try simp only [Act.put, List.setIfInBounds_toArray, List.set_cons_zero, List.set_cons_succ]
            refine EG_take 17 (v := ?v84) (by simp only [List.getElem?_toArray, List.getElem?_cons_succ, List.getElem?_cons_zero]; rfl) (by kernel_rfl) (by kernel_rfl) (by decide) (fun _ _ _ h => h) (Or.inl ⟨by rfl, ?hy84⟩) (KEEP.out _ (ext_drew _)) ?rest84
            case hy84 => intro W hSW; (try dsimp only at hSW); obtain ⟨e0, e1⟩ := hSW; go_simp <;> with_reducible rfl
            try simp only [Act.put, List.setIfInBounds_toArray, List.set_cons_zero, List.set_cons_succ]
            refine EG_take 18 (v := ?v85) (by simp only [List.getElem?_toArray, List.getElem?_cons_succ, List.getElem?_cons_zero]; rfl) (by kernel_rfl) (by kernel_rfl) (by decide) (fun _ _ _ h => h) (Or.inl ⟨by rfl, ?hy85⟩) (KEEP.out _ (ext_drew _)) ?rest85
            case hy85 => intro W hSW; (try dsimp only at hSW); obtain ⟨e0, e1⟩ := hSW; go_simp <;> with_reducible rfl
            try simp only [Act.put, List.setIfInBounds_toArray, List.set_cons_zero, List.set_cons_succ]
            refine EG_take 19 (v := ?v86) (by simp only [List.getElem?_toArray, List.getElem?_cons_succ, List.getElem?_cons_zero]; rfl) (by kernel_rfl) (by kernel_rfl) (by decide) (fun _ _ _ h => h) (Or.inl ⟨by rfl, ?hy86⟩) (KEEP.out _ (ext_drew _)) ?rest86
            case hy86 => intro W hSW; (try dsimp only at hSW); obtain ⟨e0, e1⟩ := hSW; go_simp <;> with_reducible rfl
            try simp only [Act.put, List.setIfInBounds_toArray, List.set_cons_zero, List.set_cons_succ]
            refine EG_take 20 (v := ?v87) (by simp only [List.getElem?_toArray, List.getElem?_cons_succ, List.getElem?_cons_zero]; rfl) (by kernel_rfl) (by kernel_rfl) (by decide) (fun _ _ _ h => h) (Or.inl ⟨by rfl, ?hy87⟩) (KEEP.out _ (ext_drew _)) ?rest87
            case hy87 => intro W hSW; (try dsimp only at hSW); obtain ⟨e0, e1⟩ := hSW; go_simp <;> with_reducible rfl
            try simp only [Act.put, List.setIfInBounds_toArray, List.set_cons_zero, List.set_cons_succ]
            refine EG_take 21 (v := ?v88) (by simp only [List.getElem?_toArray, List.getElem?_cons_succ, List.getElem?_cons_zero]; rfl) (by kernel_rfl) (by kernel_rfl) (by decide) (fun _ _ _ h => h) (Or.inl ⟨by rfl, ?hy88⟩) (KEEP.out _ (ext_drew _)) ?rest88
            case hy88 => intro W hSW; (try dsimp only at hSW); obtain ⟨e0, e1⟩ := hSW; go_simp <;> with_reducible rfl
            try simp only [Act.put, List.setIfInBounds_toArray, List.set_cons_zero, List.set_cons_succ]
            refine EG_end (by kernel_rfl) (by simp only [List.getElem?_toArray, List.getElem?_cons_succ, List.getElem?_cons_zero]; rfl) ?_
            intro K hK0
            have hK := hid hK0
            clear hK0
            go_simp
            refine hK.out _ _ ?_
            clear hK K
            refine NoPanic.normal ?_
            clear w1' w2' d4 d3 hq1 hq2 hq3 KEEP
            have xz := ext_drew wp
            obtain ⟨wz, hwz⟩ : ∃ wz, wp.drew = wz := ⟨_, rfl⟩
            rw [hwz] at xz ⊢
            have EZ := hid (ext_trans XP.out xz)
            have BZ := hid (BX.out.ext xz)
            have QZ := hid (PC0.out.q.ext EZ.out)
            have HGU : Hid (¬ Up w.heap.size wr A1 gx) := hid (fun e => by have h1 := e.2.1; have h2 := HGX.out; omega)
            have PK := fun W => pick_any m.a.kind 8 W HWF.out.kind (by decide)
            obtain ⟨pk, hpk⟩ : ∃ pk, pick m.a.kind 8 = pk := ⟨_, rfl⟩
            have rpk : 0 ≤ pk ∧ pk < 8 := by have := pick_range m.a.kind 8 (by decide); omega
            rw [hpk] at PK
            have PK := hid PK
            have y0 := BZ.out.cell 0
            have y1 := BZ.out.cell 1
            have y2 := BZ.out.cell 2
            have y3 := BZ.out.cell 3
            have y4 := BZ.out.cell 4
            have y5 := BZ.out.cell 5
            have y6 := BZ.out.cell 6
            have y7 := BZ.out.cell 7
            have y8 := BZ.out.cell 8
            have y9 := BZ.out.cell 9
            have y10 := BZ.out.cell 10
            simp at y0 y1 y2 y3 y4 y5 y6 y7 y8 y9 y10
            clear hpk hwz xz d1 d2 hlow hhi
            go_wp2_with fail
            refine (PK.out _).mono ?_
            rintro e _ ⟨rfl, rfl⟩
            rcases (show pk = 3 ∨ pk = 4 ∨ pk = 5 ∨ pk = 6 ∨ pk = 7 ∨ pk < 3 by omega) with rfl | rfl | rfl | rfl | rfl | hpk
            · have CP := c_none_any QZ.out (n := m.a.nm) (kind := m.a.type) (ttl := m.a.ttl) (at_ := m.a.now) (by omega)
              have TI := true_none (most := most) INV.out (n := m.a.nm) (kind := m.a.type) (ttl := m.a.ttl) (at_ := m.a.now) hup
              obtain ⟨rs, hrs⟩ : ∃ rs, noneG most s m.a.nm m.a.type m.a.ttl m.a.now = rs := ⟨_, rfl⟩
              rw [hrs] at CP TI
              obtain ⟨s', bb, er⟩ := rs
              simp only at CP TI
              rw [HXN.out] at CP
              simp only [pt] at CP
              have CP := hid CP
              have TI := hid TI
              clear hrs
              go_wp2_with fail
              refine CP.out.mono ?_
              rintro e w3 ⟨rfl, q3, s3⟩
              have PC3 := hid (PutC.step PC0.out EZ.out q3 s3)
              have b3 := BZ.out.shy s3 HGU.out
              clear q3 s3 CP y0 y1 y2 y3 y4 y5 y6 y7 y8 y9 y10
              have y1 := b3.cell 1
              have y3 := b3.cell 3
              have y4 := b3.cell 4
              have y5 := b3.cell 5
              simp at y1 y3 y4 y5
              clear b3
              cases bb with
              | false =>
                have INV9 := hid (TI.out.2 rfl)
                have HP9 := HP
                have PC9 := PC3
                have CL := c_len PC9.out.q
                simp only [pt] at CL
                obtain ⟨ln, hln⟩ : ∃ ln, s'.L.length = ln := ⟨_, rfl⟩
                have hlm := PC9.out.q.1.2.2.1
                rw [hln] at CL hlm
                have CL := hid CL
                have l1 : decide (most < (ln : Int)) = false := (by simpa using hlm)
                have l2 : decide ((ln : Int) < 0) = false := (by simp)
                have REL : TrRel w g most M (.slice A1 P.length c1) (.int .i64 ((k : Int) + 1)) w3 := ⟨k + 1, A1, c1, s', P, m.a.now, by omega, by go_num, by first | rfl | (rw [List.length_append]; done) | (rw [List.length_append]; rfl), by (try rw [List.length_append, List.length_singleton]); omega, PC9.out, HP9.out, INV9.out, fun _ => ⟨by rw [Nat.add_sub_cancel, HME.out], hin⟩, fun h => by omega⟩
                have REL := hid REL
                clear hln hlm
                go_wp2_with fail
                refine CL.out.mono ?_
                rintro e _ ⟨rfl, rfl⟩
                go_wp2_with fail
                refine CL.out.mono ?_
                rintro e _ ⟨rfl, rfl⟩
                go_wp2_with fail
                go_roundw
                case rel => exact REL.out
                case measure => simp [intOf]; omega
              | true =>
                have NEW : Hid (WfP (noneOf m.a.nm m.a.type m.a.ttl m.a.now).p ∧ RdG w 1 (noneOf m.a.nm m.a.type m.a.ttl m.a.now).A (noneOf m.a.nm m.a.type m.a.ttl m.a.now).p.s.data.length (noneOf m.a.nm m.a.type m.a.ttl m.a.now).d (tvs (noneOf m.a.nm m.a.type m.a.ttl m.a.now).p.s.data)) := hid (by
                  obtain ⟨_, t1, t2, t3⟩ := TI.out.1 rfl
                  refine ⟨⟨by show m.a.nm.length ≤ 2000000; omega, ⟨by show -9223372036854775808 ≤ m.a.type; omega, by show m.a.type ≤ 9223372036854775807; omega⟩, ⟨by show 0 ≤ m.a.ttl; omega, by show m.a.ttl ≤ 2147483648; omega⟩, ⟨by show (-9223372036854775808 : Int) ≤ 3; decide, by show (3 : Int) ≤ 9223372036854775807; decide⟩, t3, ⟨by show (-9223372036854775808 : Int) ≤ 0; decide, by show (0 : Int) ≤ 9223372036854775807; decide⟩⟩, RdG.none_ w 1⟩)
                have xa := ext_alloc w3 (.cells #[.string xn, .int .i64 m.a.type, .string ⟨#[]⟩, .int .i64 0, .int .i64 0, .int .i64 0, .slice none 0 0, .bool false, .int .i64 m.a.ttl, .int .i64 3, .int .i64 m.a.now] 69)
                have bn := Blk.new w3 69 #[.string xn, .int .i64 m.a.type, .string ⟨#[]⟩, .int .i64 0, .int .i64 0, .int .i64 0, .slice none 0 0, .bool false, .int .i64 m.a.ttl, .int .i64 3, .int .i64 m.a.now]
                obtain ⟨wn, hwn⟩ : ∃ wn, w3.alloc (.cells #[.string xn, .int .i64 m.a.type, .string ⟨#[]⟩, .int .i64 0, .int .i64 0, .int .i64 0, .slice none 0 0, .bool false, .int .i64 m.a.ttl, .int .i64 3, .int .i64 m.a.now] 69) = wn := ⟨_, rfl⟩
                obtain ⟨gn, hgn⟩ : ∃ gn, w3.heap.size = gn := ⟨_, rfl⟩
                rw [hwn] at xa bn
                rw [hgn] at bn
                have src : RdG wn 11 (some ⟨gn, 0, none⟩) 1 1 (cellsP (noneOf m.a.nm m.a.type m.a.ttl m.a.now)) := ⟨rfl, Nat.le_refl _, by simp [maxLen], fun _ => ⟨gn, 0, rfl, bn.lt, fun j u hj => by
                  rw [Nat.zero_add, bn.cell]
                  have e9 : (cellsP (noneOf m.a.nm m.a.type m.a.ttl m.a.now)).toArray = #[.string xn, .int .i64 m.a.type, .string ⟨#[]⟩, .int .i64 0, .int .i64 0, .int .i64 0, .slice none 0 0, .bool false, .int .i64 m.a.ttl, .int .i64 3, .int .i64 m.a.now] := by first | (rw [← HXN.out]; rfl) | (rw [← HXSN.out, ← HXL.out]; rfl)
                  rw [← e9]
                  simpa using hj⟩⟩
                have dst := PC3.out.o.ext xa
                have PCN := hid (PC3.out.ext xa)
                have SRC := hid src
                have DST := hid dst
                have HPN9 : Hid (∀ q ∈ P ++ [noneOf m.a.nm m.a.type m.a.ttl m.a.now], WfP q.p ∧ RdG w 1 q.A q.p.s.data.length q.d (tvs q.p.s.data)) := hid (fun q hq => by
                  rcases List.mem_append.1 hq with hq | hq
                  · exact HP.out q hq
                  · rw [List.mem_singleton] at hq
                    subst hq
                    exact NEW.out)
                have hwz9 : w.heap.size ≤ wn.heap.size := PCN.out.x.size
                have hpl9 : P.length ≤ 100 := by omega
                have INV9 := hid (TI.out.1 rfl).1
                clear xa bn src dst
                go_wp2_with (at_builtin; go_must (refine wpList_append_g (ok := okP) rfl (.tmp 120) (.tmp 130) 67 rfl w.heap.size 69 i0 (.agg #[.string ⟨#[]⟩, .int .i64 0, .string ⟨#[]⟩, .int .i64 0, .int .i64 0, .int .i64 0, .slice none 0 0, .bool false, .int .i64 0, .int .i64 0, .int .i64 0]) 11 120 Try.underlying67 hi hz0 hz1 hz2 rfl (by decide) zeroP (fun _ h => h) rfl DST.out rfl SRC.out (okP_cells _) (by omega) (by unfold maxLen; omega) (by omega) ?_; intro A6 c6 w6 o6 g6 n6; have PC9 : Hid (PutC w w6 g most s' A6 c6 (P ++ [noneOf m.a.nm m.a.type m.a.ttl m.a.now])) := hid (PCN.out.app (by rw [List.length_append, ← cellsPM_app]; exact o6) g6 (fun q hq => by (rcases n6 with n6 | n6; (left; rw [← n6]; exact hq); (right; rw [n6] at hq; simp at hq; omega)))); have HP9 := HPN9; clear o6 g6 n6; have CL := c_len PC9.out.q; simp only [pt] at CL; obtain ⟨ln, hln⟩ : ∃ ln, s'.L.length = ln := ⟨_, rfl⟩; have hlm := PC9.out.q.1.2.2.1; rw [hln] at CL hlm; have CL := hid CL; have l1 : decide (most < (ln : Int)) = false := (by simpa using hlm); have l2 : decide ((ln : Int) < 0) = false := (by simp); have REL : TrRel w g most M (.slice A6 (P.length + 1) c6) (.int .i64 ((k : Int) + 1)) w6 := ⟨k + 1, A6, c6, s', P ++ [noneOf m.a.nm m.a.type m.a.ttl m.a.now], m.a.now, by omega, by go_num, by first | rfl | (rw [List.length_append]; done) | (rw [List.length_append]; rfl), by (try rw [List.length_append, List.length_singleton]); omega, PC9.out, HP9.out, INV9.out, fun _ => ⟨by rw [Nat.add_sub_cancel, HME.out], hin⟩, fun h => by omega⟩; have REL := hid REL; clear hln hlm))
                refine CL.out.mono ?_
                rintro e _ ⟨rfl, rfl⟩
                go_wp2_with fail
                refine CL.out.mono ?_
                rintro e _ ⟨rfl, rfl⟩
                go_wp2_with fail
                go_roundw
                case rel => exact REL.out
                case measure => simp [intOf]; omega
            · as_aux_lemma =>
                have CG := c_get_any (QZ.out.ext (ext_drew _)) (n := m.a.nm) (kind := m.a.type) (rank := m.a.rank) (at_ := m.a.now) (by omega) HWF.out.type
                have TO := told_of INV.out PC0.out.q.1 (a := m.a) hup hin
                obtain ⟨rs, hrs⟩ : ∃ rs, getG s m.a.nm m.a.type m.a.rank m.a.now = rs := ⟨_, rfl⟩
                rw [hrs] at CG TO
                obtain ⟨s', f⟩ := rs
                simp only at CG TO
                rw [HXN.out] at CG
                simp only [pt] at CG
                have CG := hid CG
                have TO := hid TO
                have KEEP : Hid (∀ W, Ext wz W → W.cell? ⟨gx, 0, none⟩ = some (.int .i64 m.a.kind) ∧ W.cell? ⟨gx, 1, none⟩ = some (.int .i64 m.a.now) ∧ W.cell? ⟨gx, 2, none⟩ = some (.int .i64 m.a.rank) ∧ W.cell? ⟨gx, 3, none⟩ = some (.int .i64 m.a.type) ∧ W.cell? ⟨gx, 4, none⟩ = some (.int .i64 m.a.ttl) ∧ W.cell? ⟨gx, 5, none⟩ = some (.string xn) ∧ W.cell? ⟨gx, 6, none⟩ = some (.string xsn) ∧ W.cell? ⟨gx, 7, none⟩ = some (.int .i64 m.a.s.ty) ∧ W.cell? ⟨gx, 8, none⟩ = some (.int .i64 m.a.s.cl) ∧ W.cell? ⟨gx, 9, none⟩ = some (.int .i64 m.a.s.ttl) ∧ W.cell? ⟨gx, 10, none⟩ = some (.slice m.A xl m.d)) := hid (fun W y => by
                  have b := BZ.out.ext y
                  exact ⟨b.cell 0, b.cell 1, b.cell 2, b.cell 3, b.cell 4, b.cell 5, b.cell 6, b.cell 7, b.cell 8, b.cell 9, b.cell 10⟩)
                clear hrs y0 y1 y2 y3 y4 y5 y6 y7 y8 y9 y10
                go_upto_region 25 with (fail)
                refine wp_region_noPanic ?_
                refine region_E (S := fun W => W.cell? ⟨gx, 0, none⟩ = some (.int .i64 m.a.kind) ∧ W.cell? ⟨gx, 1, none⟩ = some (.int .i64 m.a.now) ∧ W.cell? ⟨gx, 2, none⟩ = some (.int .i64 m.a.rank) ∧ W.cell? ⟨gx, 3, none⟩ = some (.int .i64 m.a.type) ∧ W.cell? ⟨gx, 4, none⟩ = some (.int .i64 m.a.ttl) ∧ W.cell? ⟨gx, 5, none⟩ = some (.string xn) ∧ W.cell? ⟨gx, 6, none⟩ = some (.string xsn) ∧ W.cell? ⟨gx, 7, none⟩ = some (.int .i64 m.a.s.ty) ∧ W.cell? ⟨gx, 8, none⟩ = some (.int .i64 m.a.s.cl) ∧ W.cell? ⟨gx, 9, none⟩ = some (.int .i64 m.a.s.ttl) ∧ W.cell? ⟨gx, 10, none⟩ = some (.slice m.A xl m.d)) 13 (by kernel_rfl) (by kernel_rfl) (by kernel_rfl) ?_
                refine EG_take 0 (v := ?v111) (by simp only [List.getElem?_toArray, List.getElem?_cons_succ, List.getElem?_cons_zero]; rfl) (by kernel_rfl) (by kernel_rfl) (by decide) (fun _ _ _ h => h) (Or.inl ⟨by rfl, ?hy111⟩) (KEEP.out _ (ext_drew _)) ?rest111
                case hy111 => intro W hSW; (try dsimp only at hSW); obtain ⟨e0, e1, e2, e3, e4, e5, e6, e7, e8, e9, e10⟩ := hSW; go_simp <;> with_reducible rfl
                try simp only [Act.put, List.setIfInBounds_toArray, List.set_cons_zero, List.set_cons_succ]
                refine EG_take 1 (v := ?v112) (by simp only [List.getElem?_toArray, List.getElem?_cons_succ, List.getElem?_cons_zero]; rfl) (by kernel_rfl) (by kernel_rfl) (by decide) (fun _ _ _ h => h) (Or.inl ⟨by rfl, ?hy112⟩) (KEEP.out _ (ext_drew _)) ?rest112
                case hy112 => intro W hSW; (try dsimp only at hSW); obtain ⟨e0, e1, e2, e3, e4, e5, e6, e7, e8, e9, e10⟩ := hSW; go_simp <;> with_reducible rfl
                try simp only [Act.put, List.setIfInBounds_toArray, List.set_cons_zero, List.set_cons_succ]
                refine EG_take 2 (v := ?v113) (by simp only [List.getElem?_toArray, List.getElem?_cons_succ, List.getElem?_cons_zero]; rfl) (by kernel_rfl) (by kernel_rfl) (by decide) (fun _ _ _ h => h) (Or.inl ⟨by rfl, ?hy113⟩) (KEEP.out _ (ext_drew _)) ?rest113
                case hy113 => intro W hSW; (try dsimp only at hSW); obtain ⟨e0, e1, e2, e3, e4, e5, e6, e7, e8, e9, e10⟩ := hSW; go_simp <;> with_reducible rfl
                try simp only [Act.put, List.setIfInBounds_toArray, List.set_cons_zero, List.set_cons_succ]
                refine EG_take 3 (v := ?v114) (by simp only [List.getElem?_toArray, List.getElem?_cons_succ, List.getElem?_cons_zero]; rfl) (by kernel_rfl) (by kernel_rfl) (by decide) (fun _ _ _ h => h) (Or.inl ⟨by rfl, ?hy114⟩) (KEEP.out _ (ext_drew _)) ?rest114
                case hy114 => intro W hSW; (try dsimp only at hSW); obtain ⟨e0, e1, e2, e3, e4, e5, e6, e7, e8, e9, e10⟩ := hSW; go_simp <;> with_reducible rfl
                try simp only [Act.put, List.setIfInBounds_toArray, List.set_cons_zero, List.set_cons_succ]
                refine EG_take 4 (v := ?v115) (by simp only [List.getElem?_toArray, List.getElem?_cons_succ, List.getElem?_cons_zero]; rfl) (by kernel_rfl) (by kernel_rfl) (by decide) (fun _ _ _ h => h) (Or.inl ⟨by rfl, ?hy115⟩) (KEEP.out _ (ext_drew _)) ?rest115
                case hy115 => intro W hSW; (try dsimp only at hSW); obtain ⟨e0, e1, e2, e3, e4, e5, e6, e7, e8, e9, e10⟩ := hSW; go_simp <;> with_reducible rfl
                try simp only [Act.put, List.setIfInBounds_toArray, List.set_cons_zero, List.set_cons_succ]
                refine EG_take 5 (v := ?v116) (by simp only [List.getElem?_toArray, List.getElem?_cons_succ, List.getElem?_cons_zero]; rfl) (by kernel_rfl) (by kernel_rfl) (by decide) (fun _ _ _ h => h) (Or.inl ⟨by rfl, ?hy116⟩) (KEEP.out _ (ext_drew _)) ?rest116
                case hy116 => intro W hSW; (try dsimp only at hSW); obtain ⟨e0, e1, e2, e3, e4, e5, e6, e7, e8, e9, e10⟩ := hSW; go_simp <;> with_reducible rfl
                try simp only [Act.put, List.setIfInBounds_toArray, List.set_cons_zero, List.set_cons_succ]
                refine EG_take 6 (v := ?v117) (by simp only [List.getElem?_toArray, List.getElem?_cons_succ, List.getElem?_cons_zero]; rfl) (by kernel_rfl) (by kernel_rfl) (by decide) (fun _ _ _ h => h) (Or.inl ⟨by rfl, ?hy117⟩) (KEEP.out _ (ext_drew _)) ?rest117
                case hy117 => intro W hSW; (try dsimp only at hSW); obtain ⟨e0, e1, e2, e3, e4, e5, e6, e7, e8, e9, e10⟩ := hSW; go_simp <;> with_reducible rfl
                try simp only [Act.put, List.setIfInBounds_toArray, List.set_cons_zero, List.set_cons_succ]
                refine EG_take 7 (v := ?v118) (by simp only [List.getElem?_toArray, List.getElem?_cons_succ, List.getElem?_cons_zero]; rfl) (by kernel_rfl) (by kernel_rfl) (by decide) (fun _ _ _ h => h) (Or.inl ⟨by rfl, ?hy118⟩) (KEEP.out _ (ext_drew _)) ?rest118
                case hy118 => intro W hSW; (try dsimp only at hSW); obtain ⟨e0, e1, e2, e3, e4, e5, e6, e7, e8, e9, e10⟩ := hSW; go_simp <;> with_reducible rfl
                try simp only [Act.put, List.setIfInBounds_toArray, List.set_cons_zero, List.set_cons_succ]
                refine EG_take 8 (v := ?v119) (by simp only [List.getElem?_toArray, List.getElem?_cons_succ, List.getElem?_cons_zero]; rfl) (by kernel_rfl) (by kernel_rfl) (by decide) (fun _ _ _ h => h) (Or.inl ⟨by rfl, ?hy119⟩) (KEEP.out _ (ext_drew _)) ?rest119
                case hy119 => intro W hSW; (try dsimp only at hSW); obtain ⟨e0, e1, e2, e3, e4, e5, e6, e7, e8, e9, e10⟩ := hSW; go_simp <;> with_reducible rfl
                try simp only [Act.put, List.setIfInBounds_toArray, List.set_cons_zero, List.set_cons_succ]
                refine EG_take 10 (v := ?v120) (by simp only [List.getElem?_toArray, List.getElem?_cons_succ, List.getElem?_cons_zero]; rfl) (by kernel_rfl) (by kernel_rfl) (by decide) (fun _ _ _ h => h) (Or.inl ⟨by rfl, ?hy120⟩) (KEEP.out _ (ext_drew _)) ?rest120
                case hy120 => intro W hSW; (try dsimp only at hSW); obtain ⟨e0, e1, e2, e3, e4, e5, e6, e7, e8, e9, e10⟩ := hSW; go_simp <;> with_reducible rfl
                try simp only [Act.put, List.setIfInBounds_toArray, List.set_cons_zero, List.set_cons_succ]
                refine EG_take 11 (v := ?v121) (by simp only [List.getElem?_toArray, List.getElem?_cons_succ, List.getElem?_cons_zero]; rfl) (by kernel_rfl) (by kernel_rfl) (by decide) (fun _ _ _ h => h) (Or.inl ⟨by rfl, ?hy121⟩) (KEEP.out _ (ext_drew _)) ?rest121
                case hy121 => intro W hSW; (try dsimp only at hSW); obtain ⟨e0, e1, e2, e3, e4, e5, e6, e7, e8, e9, e10⟩ := hSW; go_simp <;> with_reducible rfl
                try simp only [Act.put, List.setIfInBounds_toArray, List.set_cons_zero, List.set_cons_succ]
                refine EG_one 9 (by kernel_rfl) (by simp only [List.getElem?_toArray, List.getElem?_cons_succ, List.getElem?_cons_zero]; rfl) (by decide) ?_
                intro K hK0
                have hK := hid hK0
                clear hK0
                go_simp
                refine (CG.out).mono ?_
                rintro e w3 ⟨A3, c3, rfl, o3, q3, s3⟩
                have PC3 := hid (PutC.step PC0.out (ext_trans EZ.out (ext_drew _)) (qc_more q3 s3.size) s3)
                have b3 := (BZ.out.ext (ext_drew _)).shy s3 HGU.out
                have S3 : Hid (w3.cell? ⟨gx, 0, none⟩ = some (.int .i64 m.a.kind) ∧ w3.cell? ⟨gx, 1, none⟩ = some (.int .i64 m.a.now) ∧ w3.cell? ⟨gx, 2, none⟩ = some (.int .i64 m.a.rank) ∧ w3.cell? ⟨gx, 3, none⟩ = some (.int .i64 m.a.type) ∧ w3.cell? ⟨gx, 4, none⟩ = some (.int .i64 m.a.ttl) ∧ w3.cell? ⟨gx, 5, none⟩ = some (.string xn) ∧ w3.cell? ⟨gx, 6, none⟩ = some (.string xsn) ∧ w3.cell? ⟨gx, 7, none⟩ = some (.int .i64 m.a.s.ty) ∧ w3.cell? ⟨gx, 8, none⟩ = some (.int .i64 m.a.s.cl) ∧ w3.cell? ⟨gx, 9, none⟩ = some (.int .i64 m.a.s.ttl) ∧ w3.cell? ⟨gx, 10, none⟩ = some (.slice m.A xl m.d)) := hid ⟨b3.cell 0, b3.cell 1, b3.cell 2, b3.cell 3, b3.cell 4, b3.cell 5, b3.cell 6, b3.cell 7, b3.cell 8, b3.cell 9, b3.cell 10⟩
                have KEEP3 : Hid (∀ W, Ext w3 W → W.cell? ⟨gx, 0, none⟩ = some (.int .i64 m.a.kind) ∧ W.cell? ⟨gx, 1, none⟩ = some (.int .i64 m.a.now) ∧ W.cell? ⟨gx, 2, none⟩ = some (.int .i64 m.a.rank) ∧ W.cell? ⟨gx, 3, none⟩ = some (.int .i64 m.a.type) ∧ W.cell? ⟨gx, 4, none⟩ = some (.int .i64 m.a.ttl) ∧ W.cell? ⟨gx, 5, none⟩ = some (.string xn) ∧ W.cell? ⟨gx, 6, none⟩ = some (.string xsn) ∧ W.cell? ⟨gx, 7, none⟩ = some (.int .i64 m.a.s.ty) ∧ W.cell? ⟨gx, 8, none⟩ = some (.int .i64 m.a.s.cl) ∧ W.cell? ⟨gx, 9, none⟩ = some (.int .i64 m.a.s.ttl) ∧ W.cell? ⟨gx, 10, none⟩ = some (.slice m.A xl m.d)) := hid (fun W y => by
                  have b := b3.ext y
                  exact ⟨b.cell 0, b.cell 1, b.cell 2, b.cell 3, b.cell 4, b.cell 5, b.cell 6, b.cell 7, b.cell 8, b.cell 9, b.cell 10⟩)
                have CT : Hid (Calls Try.prog 30 #[foundV f A3 c3, .slice A1 P.length c1, .agg #[.int .i64 m.a.kind, .int .i64 m.a.now, .int .i64 m.a.rank, .int .i64 m.a.type, .int .i64 m.a.ttl, .string xn, .string xsn, .int .i64 m.a.s.ty, .int .i64 m.a.s.cl, .int .i64 m.a.s.ttl, .slice m.A xl m.d]] w3 fun e w' => e = .returned (.bool true) ∧ Ext w3 w') := hid (by
                  have ec : (cellsA m).toArray = #[.int .i64 m.a.kind, .int .i64 m.a.now, .int .i64 m.a.rank, .int .i64 m.a.type, .int .i64 m.a.ttl, .string xn, .string xsn, .int .i64 m.a.s.ty, .int .i64 m.a.s.cl, .int .i64 m.a.s.ttl, .slice m.A xl m.d] := by unfold cellsA; rw [HXN.out, HXSN.out, HXL.out]
                  rw [← ec]
                  rcases TO.out.2 with h0 | ⟨h0, h2⟩
                  · exact told_none h0
                  · exact told_in o3.rd (putsR_of PC3.out HP.out (ext_refl _)) HWF.out (by omega) hin h0 h2)
                clear o3 q3 s3 b3 CG
                unfold foundV at CT ⊢
                go_simp
                refine hK.out _ _ (KEEP3.out _ (ext_refl _)) ?_
                clear hK K
                try simp only [Act.put, List.setIfInBounds_toArray, List.set_cons_zero, List.set_cons_succ]
                refine EG_one 12 (by kernel_rfl) (by simp only [List.getElem?_toArray, List.getElem?_cons_succ, List.getElem?_cons_zero]; rfl) (by decide) ?_
                intro K hK0
                have hK := hid hK0
                clear hK0
                go_simp
                refine CT.out.mono ?_
                rintro e w5 ⟨rfl, x5⟩
                have PC9 := hid (PC3.out.ext x5)
                have X5 := hid x5
                clear x5 CT
                go_simp
                refine hK.out _ _ (KEEP3.out _ X5.out) ?_
                clear hK K
                try simp only [Act.put, List.setIfInBounds_toArray, List.set_cons_zero, List.set_cons_succ]
                refine EG_end (by kernel_rfl) (by simp only [List.getElem?_toArray, List.getElem?_cons_succ, List.getElem?_cons_zero]; rfl) ?_
                intro K hK0
                have hK := hid hK0
                clear hK0
                go_simp
                refine hK.out _ _ ?_
                clear hK K
                refine NoPanic.normal ?_
                have INV9 := hid TO.out.1
                have HP9 := HP
                have CL := c_len PC9.out.q
                simp only [pt] at CL
                obtain ⟨ln, hln⟩ : ∃ ln, s'.L.length = ln := ⟨_, rfl⟩
                have hlm := PC9.out.q.1.2.2.1
                rw [hln] at CL hlm
                have CL := hid CL
                have l1 : decide (most < (ln : Int)) = false := (by simpa using hlm)
                have l2 : decide ((ln : Int) < 0) = false := (by simp)
                have REL : TrRel w g most M (.slice A1 P.length c1) (.int .i64 ((k : Int) + 1)) w5 := ⟨k + 1, A1, c1, s', P, m.a.now, by omega, by go_num, by first | rfl | (rw [List.length_append]; done) | (rw [List.length_append]; rfl), by (try rw [List.length_append, List.length_singleton]); omega, PC9.out, HP9.out, INV9.out, fun _ => ⟨by rw [Nat.add_sub_cancel, HME.out], hin⟩, fun h => by omega⟩
                have REL := hid REL
                clear hln hlm
                clear KEEP KEEP3
                go_wp2_with fail
                refine CL.out.mono ?_
                rintro e _ ⟨rfl, rfl⟩
                go_wp2_with fail
                refine CL.out.mono ?_
                rintro e _ ⟨rfl, rfl⟩
                go_wp2_with fail
                go_roundw
                case rel => exact REL.out
                case measure => simp [intOf]; omega
            · as_aux_lemma =>
                have CG := c_get_any (QZ.out.ext (ext_drew _)) (n := m.a.nm) (kind := m.a.type) (rank := m.a.rank) (at_ := m.a.now) (by omega) HWF.out.type
                have TO := told_of INV.out PC0.out.q.1 (a := m.a) hup hin
                obtain ⟨rs, hrs⟩ : ∃ rs, getG s m.a.nm m.a.type m.a.rank m.a.now = rs := ⟨_, rfl⟩
                rw [hrs] at CG TO
                obtain ⟨s', f⟩ := rs
                simp only at CG TO
                rw [HXN.out] at CG
                simp only [pt] at CG
                have CG := hid CG
                have TO := hid TO
                have KEEP : Hid (∀ W, Ext wz W → W.cell? ⟨gx, 0, none⟩ = some (.int .i64 m.a.kind) ∧ W.cell? ⟨gx, 1, none⟩ = some (.int .i64 m.a.now) ∧ W.cell? ⟨gx, 2, none⟩ = some (.int .i64 m.a.rank) ∧ W.cell? ⟨gx, 3, none⟩ = some (.int .i64 m.a.type) ∧ W.cell? ⟨gx, 4, none⟩ = some (.int .i64 m.a.ttl) ∧ W.cell? ⟨gx, 5, none⟩ = some (.string xn) ∧ W.cell? ⟨gx, 6, none⟩ = some (.string xsn) ∧ W.cell? ⟨gx, 7, none⟩ = some (.int .i64 m.a.s.ty) ∧ W.cell? ⟨gx, 8, none⟩ = some (.int .i64 m.a.s.cl) ∧ W.cell? ⟨gx, 9, none⟩ = some (.int .i64 m.a.s.ttl) ∧ W.cell? ⟨gx, 10, none⟩ = some (.slice m.A xl m.d)) := hid (fun W y => by
                  have b := BZ.out.ext y
                  exact ⟨b.cell 0, b.cell 1, b.cell 2, b.cell 3, b.cell 4, b.cell 5, b.cell 6, b.cell 7, b.cell 8, b.cell 9, b.cell 10⟩)
                clear hrs y0 y1 y2 y3 y4 y5 y6 y7 y8 y9 y10
                go_upto_region 25 with (fail)
                refine wp_region_noPanic ?_
                refine region_E (S := fun W => W.cell? ⟨gx, 0, none⟩ = some (.int .i64 m.a.kind) ∧ W.cell? ⟨gx, 1, none⟩ = some (.int .i64 m.a.now) ∧ W.cell? ⟨gx, 2, none⟩ = some (.int .i64 m.a.rank) ∧ W.cell? ⟨gx, 3, none⟩ = some (.int .i64 m.a.type) ∧ W.cell? ⟨gx, 4, none⟩ = some (.int .i64 m.a.ttl) ∧ W.cell? ⟨gx, 5, none⟩ = some (.string xn) ∧ W.cell? ⟨gx, 6, none⟩ = some (.string xsn) ∧ W.cell? ⟨gx, 7, none⟩ = some (.int .i64 m.a.s.ty) ∧ W.cell? ⟨gx, 8, none⟩ = some (.int .i64 m.a.s.cl) ∧ W.cell? ⟨gx, 9, none⟩ = some (.int .i64 m.a.s.ttl) ∧ W.cell? ⟨gx, 10, none⟩ = some (.slice m.A xl m.d)) 13 (by kernel_rfl) (by kernel_rfl) (by kernel_rfl) ?_
                refine EG_take 0 (v := ?v122) (by simp only [List.getElem?_toArray, List.getElem?_cons_succ, List.getElem?_cons_zero]; rfl) (by kernel_rfl) (by kernel_rfl) (by decide) (fun _ _ _ h => h) (Or.inl ⟨by rfl, ?hy122⟩) (KEEP.out _ (ext_drew _)) ?rest122
                case hy122 => intro W hSW; (try dsimp only at hSW); obtain ⟨e0, e1, e2, e3, e4, e5, e6, e7, e8, e9, e10⟩ := hSW; go_simp <;> with_reducible rfl
                try simp only [Act.put, List.setIfInBounds_toArray, List.set_cons_zero, List.set_cons_succ]
                refine EG_take 1 (v := ?v123) (by simp only [List.getElem?_toArray, List.getElem?_cons_succ, List.getElem?_cons_zero]; rfl) (by kernel_rfl) (by kernel_rfl) (by decide) (fun _ _ _ h => h) (Or.inl ⟨by rfl, ?hy123⟩) (KEEP.out _ (ext_drew _)) ?rest123
                case hy123 => intro W hSW; (try dsimp only at hSW); obtain ⟨e0, e1, e2, e3, e4, e5, e6, e7, e8, e9, e10⟩ := hSW; go_simp <;> with_reducible rfl
                try simp only [Act.put, List.setIfInBounds_toArray, List.set_cons_zero, List.set_cons_succ]
                refine EG_take 2 (v := ?v124) (by simp only [List.getElem?_toArray, List.getElem?_cons_succ, List.getElem?_cons_zero]; rfl) (by kernel_rfl) (by kernel_rfl) (by decide) (fun _ _ _ h => h) (Or.inl ⟨by rfl, ?hy124⟩) (KEEP.out _ (ext_drew _)) ?rest124
                case hy124 => intro W hSW; (try dsimp only at hSW); obtain ⟨e0, e1, e2, e3, e4, e5, e6, e7, e8, e9, e10⟩ := hSW; go_simp <;> with_reducible rfl
                try simp only [Act.put, List.setIfInBounds_toArray, List.set_cons_zero, List.set_cons_succ]
                refine EG_take 3 (v := ?v125) (by simp only [List.getElem?_toArray, List.getElem?_cons_succ, List.getElem?_cons_zero]; rfl) (by kernel_rfl) (by kernel_rfl) (by decide) (fun _ _ _ h => h) (Or.inl ⟨by rfl, ?hy125⟩) (KEEP.out _ (ext_drew _)) ?rest125
                case hy125 => intro W hSW; (try dsimp only at hSW); obtain ⟨e0, e1, e2, e3, e4, e5, e6, e7, e8, e9, e10⟩ := hSW; go_simp <;> with_reducible rfl
                try simp only [Act.put, List.setIfInBounds_toArray, List.set_cons_zero, List.set_cons_succ]
                refine EG_take 4 (v := ?v126) (by simp only [List.getElem?_toArray, List.getElem?_cons_succ, List.getElem?_cons_zero]; rfl) (by kernel_rfl) (by kernel_rfl) (by decide) (fun _ _ _ h => h) (Or.inl ⟨by rfl, ?hy126⟩) (KEEP.out _ (ext_drew _)) ?rest126
                case hy126 => intro W hSW; (try dsimp only at hSW); obtain ⟨e0, e1, e2, e3, e4, e5, e6, e7, e8, e9, e10⟩ := hSW; go_simp <;> with_reducible rfl
                try simp only [Act.put, List.setIfInBounds_toArray, List.set_cons_zero, List.set_cons_succ]
                refine EG_take 5 (v := ?v127) (by simp only [List.getElem?_toArray, List.getElem?_cons_succ, List.getElem?_cons_zero]; rfl) (by kernel_rfl) (by kernel_rfl) (by decide) (fun _ _ _ h => h) (Or.inl ⟨by rfl, ?hy127⟩) (KEEP.out _ (ext_drew _)) ?rest127
                case hy127 => intro W hSW; (try dsimp only at hSW); obtain ⟨e0, e1, e2, e3, e4, e5, e6, e7, e8, e9, e10⟩ := hSW; go_simp <;> with_reducible rfl
                try simp only [Act.put, List.setIfInBounds_toArray, List.set_cons_zero, List.set_cons_succ]
                refine EG_take 6 (v := ?v128) (by simp only [List.getElem?_toArray, List.getElem?_cons_succ, List.getElem?_cons_zero]; rfl) (by kernel_rfl) (by kernel_rfl) (by decide) (fun _ _ _ h => h) (Or.inl ⟨by rfl, ?hy128⟩) (KEEP.out _ (ext_drew _)) ?rest128
                case hy128 => intro W hSW; (try dsimp only at hSW); obtain ⟨e0, e1, e2, e3, e4, e5, e6, e7, e8, e9, e10⟩ := hSW; go_simp <;> with_reducible rfl
                try simp only [Act.put, List.setIfInBounds_toArray, List.set_cons_zero, List.set_cons_succ]
                refine EG_take 7 (v := ?v129) (by simp only [List.getElem?_toArray, List.getElem?_cons_succ, List.getElem?_cons_zero]; rfl) (by kernel_rfl) (by kernel_rfl) (by decide) (fun _ _ _ h => h) (Or.inl ⟨by rfl, ?hy129⟩) (KEEP.out _ (ext_drew _)) ?rest129
                case hy129 => intro W hSW; (try dsimp only at hSW); obtain ⟨e0, e1, e2, e3, e4, e5, e6, e7, e8, e9, e10⟩ := hSW; go_simp <;> with_reducible rfl
                try simp only [Act.put, List.setIfInBounds_toArray, List.set_cons_zero, List.set_cons_succ]
                refine EG_take 8 (v := ?v130) (by simp only [List.getElem?_toArray, List.getElem?_cons_succ, List.getElem?_cons_zero]; rfl) (by kernel_rfl) (by kernel_rfl) (by decide) (fun _ _ _ h => h) (Or.inl ⟨by rfl, ?hy130⟩) (KEEP.out _ (ext_drew _)) ?rest130
                case hy130 => intro W hSW; (try dsimp only at hSW); obtain ⟨e0, e1, e2, e3, e4, e5, e6, e7, e8, e9, e10⟩ := hSW; go_simp <;> with_reducible rfl
                try simp only [Act.put, List.setIfInBounds_toArray, List.set_cons_zero, List.set_cons_succ]
                refine EG_take 10 (v := ?v131) (by simp only [List.getElem?_toArray, List.getElem?_cons_succ, List.getElem?_cons_zero]; rfl) (by kernel_rfl) (by kernel_rfl) (by decide) (fun _ _ _ h => h) (Or.inl ⟨by rfl, ?hy131⟩) (KEEP.out _ (ext_drew _)) ?rest131
                case hy131 => intro W hSW; (try dsimp only at hSW); obtain ⟨e0, e1, e2, e3, e4, e5, e6, e7, e8, e9, e10⟩ := hSW; go_simp <;> with_reducible rfl
                try simp only [Act.put, List.setIfInBounds_toArray, List.set_cons_zero, List.set_cons_succ]
                refine EG_take 11 (v := ?v132) (by simp only [List.getElem?_toArray, List.getElem?_cons_succ, List.getElem?_cons_zero]; rfl) (by kernel_rfl) (by kernel_rfl) (by decide) (fun _ _ _ h => h) (Or.inl ⟨by rfl, ?hy132⟩) (KEEP.out _ (ext_drew _)) ?rest132
                case hy132 => intro W hSW; (try dsimp only at hSW); obtain ⟨e0, e1, e2, e3, e4, e5, e6, e7, e8, e9, e10⟩ := hSW; go_simp <;> with_reducible rfl
                try simp only [Act.put, List.setIfInBounds_toArray, List.set_cons_zero, List.set_cons_succ]
                refine EG_one 9 (by kernel_rfl) (by simp only [List.getElem?_toArray, List.getElem?_cons_succ, List.getElem?_cons_zero]; rfl) (by decide) ?_
                intro K hK0
                have hK := hid hK0
                clear hK0
                go_simp
                refine (CG.out).mono ?_
                rintro e w3 ⟨A3, c3, rfl, o3, q3, s3⟩
                have PC3 := hid (PutC.step PC0.out (ext_trans EZ.out (ext_drew _)) (qc_more q3 s3.size) s3)
                have b3 := (BZ.out.ext (ext_drew _)).shy s3 HGU.out
                have S3 : Hid (w3.cell? ⟨gx, 0, none⟩ = some (.int .i64 m.a.kind) ∧ w3.cell? ⟨gx, 1, none⟩ = some (.int .i64 m.a.now) ∧ w3.cell? ⟨gx, 2, none⟩ = some (.int .i64 m.a.rank) ∧ w3.cell? ⟨gx, 3, none⟩ = some (.int .i64 m.a.type) ∧ w3.cell? ⟨gx, 4, none⟩ = some (.int .i64 m.a.ttl) ∧ w3.cell? ⟨gx, 5, none⟩ = some (.string xn) ∧ w3.cell? ⟨gx, 6, none⟩ = some (.string xsn) ∧ w3.cell? ⟨gx, 7, none⟩ = some (.int .i64 m.a.s.ty) ∧ w3.cell? ⟨gx, 8, none⟩ = some (.int .i64 m.a.s.cl) ∧ w3.cell? ⟨gx, 9, none⟩ = some (.int .i64 m.a.s.ttl) ∧ w3.cell? ⟨gx, 10, none⟩ = some (.slice m.A xl m.d)) := hid ⟨b3.cell 0, b3.cell 1, b3.cell 2, b3.cell 3, b3.cell 4, b3.cell 5, b3.cell 6, b3.cell 7, b3.cell 8, b3.cell 9, b3.cell 10⟩
                have KEEP3 : Hid (∀ W, Ext w3 W → W.cell? ⟨gx, 0, none⟩ = some (.int .i64 m.a.kind) ∧ W.cell? ⟨gx, 1, none⟩ = some (.int .i64 m.a.now) ∧ W.cell? ⟨gx, 2, none⟩ = some (.int .i64 m.a.rank) ∧ W.cell? ⟨gx, 3, none⟩ = some (.int .i64 m.a.type) ∧ W.cell? ⟨gx, 4, none⟩ = some (.int .i64 m.a.ttl) ∧ W.cell? ⟨gx, 5, none⟩ = some (.string xn) ∧ W.cell? ⟨gx, 6, none⟩ = some (.string xsn) ∧ W.cell? ⟨gx, 7, none⟩ = some (.int .i64 m.a.s.ty) ∧ W.cell? ⟨gx, 8, none⟩ = some (.int .i64 m.a.s.cl) ∧ W.cell? ⟨gx, 9, none⟩ = some (.int .i64 m.a.s.ttl) ∧ W.cell? ⟨gx, 10, none⟩ = some (.slice m.A xl m.d)) := hid (fun W y => by
                  have b := b3.ext y
                  exact ⟨b.cell 0, b.cell 1, b.cell 2, b.cell 3, b.cell 4, b.cell 5, b.cell 6, b.cell 7, b.cell 8, b.cell 9, b.cell 10⟩)
                have CT : Hid (Calls Try.prog 30 #[foundV f A3 c3, .slice A1 P.length c1, .agg #[.int .i64 m.a.kind, .int .i64 m.a.now, .int .i64 m.a.rank, .int .i64 m.a.type, .int .i64 m.a.ttl, .string xn, .string xsn, .int .i64 m.a.s.ty, .int .i64 m.a.s.cl, .int .i64 m.a.s.ttl, .slice m.A xl m.d]] w3 fun e w' => e = .returned (.bool true) ∧ Ext w3 w') := hid (by
                  have ec : (cellsA m).toArray = #[.int .i64 m.a.kind, .int .i64 m.a.now, .int .i64 m.a.rank, .int .i64 m.a.type, .int .i64 m.a.ttl, .string xn, .string xsn, .int .i64 m.a.s.ty, .int .i64 m.a.s.cl, .int .i64 m.a.s.ttl, .slice m.A xl m.d] := by unfold cellsA; rw [HXN.out, HXSN.out, HXL.out]
                  rw [← ec]
                  rcases TO.out.2 with h0 | ⟨h0, h2⟩
                  · exact told_none h0
                  · exact told_in o3.rd (putsR_of PC3.out HP.out (ext_refl _)) HWF.out (by omega) hin h0 h2)
                clear o3 q3 s3 b3 CG
                unfold foundV at CT ⊢
                go_simp
                refine hK.out _ _ (KEEP3.out _ (ext_refl _)) ?_
                clear hK K
                try simp only [Act.put, List.setIfInBounds_toArray, List.set_cons_zero, List.set_cons_succ]
                refine EG_one 12 (by kernel_rfl) (by simp only [List.getElem?_toArray, List.getElem?_cons_succ, List.getElem?_cons_zero]; rfl) (by decide) ?_
                intro K hK0
                have hK := hid hK0
                clear hK0
                go_simp
                refine CT.out.mono ?_
                rintro e w5 ⟨rfl, x5⟩
                have PC9 := hid (PC3.out.ext x5)
                have X5 := hid x5
                clear x5 CT
                go_simp
                refine hK.out _ _ (KEEP3.out _ X5.out) ?_
                clear hK K
                try simp only [Act.put, List.setIfInBounds_toArray, List.set_cons_zero, List.set_cons_succ]
                refine EG_end (by kernel_rfl) (by simp only [List.getElem?_toArray, List.getElem?_cons_succ, List.getElem?_cons_zero]; rfl) ?_
                intro K hK0
                have hK := hid hK0
                clear hK0
                go_simp
                refine hK.out _ _ ?_
                clear hK K
                refine NoPanic.normal ?_
                have INV9 := hid TO.out.1
                have HP9 := HP
                have CL := c_len PC9.out.q
                simp only [pt] at CL
                obtain ⟨ln, hln⟩ : ∃ ln, s'.L.length = ln := ⟨_, rfl⟩
                have hlm := PC9.out.q.1.2.2.1
                rw [hln] at CL hlm
                have CL := hid CL
                have l1 : decide (most < (ln : Int)) = false := (by simpa using hlm)
                have l2 : decide ((ln : Int) < 0) = false := (by simp)
                have REL : TrRel w g most M (.slice A1 P.length c1) (.int .i64 ((k : Int) + 1)) w5 := ⟨k + 1, A1, c1, s', P, m.a.now, by omega, by go_num, by first | rfl | (rw [List.length_append]; done) | (rw [List.length_append]; rfl), by (try rw [List.length_append, List.length_singleton]); omega, PC9.out, HP9.out, INV9.out, fun _ => ⟨by rw [Nat.add_sub_cancel, HME.out], hin⟩, fun h => by omega⟩
                have REL := hid REL
                clear hln hlm
                clear KEEP KEEP3
                go_wp2_with fail
                refine CL.out.mono ?_
                rintro e _ ⟨rfl, rfl⟩
                go_wp2_with fail
                refine CL.out.mono ?_
                rintro e _ ⟨rfl, rfl⟩
                go_wp2_with fail
                go_roundw
                case rel => exact REL.out
                case measure => simp [intOf]; omega
            · as_aux_lemma =>
                have CG := c_get_any (QZ.out.ext (ext_drew _)) (n := m.a.nm) (kind := m.a.type) (rank := m.a.rank) (at_ := m.a.now) (by omega) HWF.out.type
                have TO := told_of INV.out PC0.out.q.1 (a := m.a) hup hin
                obtain ⟨rs, hrs⟩ : ∃ rs, getG s m.a.nm m.a.type m.a.rank m.a.now = rs := ⟨_, rfl⟩
                rw [hrs] at CG TO
                obtain ⟨s', f⟩ := rs
                simp only at CG TO
                rw [HXN.out] at CG
                simp only [pt] at CG
                have CG := hid CG
                have TO := hid TO
                have KEEP : Hid (∀ W, Ext wz W → W.cell? ⟨gx, 0, none⟩ = some (.int .i64 m.a.kind) ∧ W.cell? ⟨gx, 1, none⟩ = some (.int .i64 m.a.now) ∧ W.cell? ⟨gx, 2, none⟩ = some (.int .i64 m.a.rank) ∧ W.cell? ⟨gx, 3, none⟩ = some (.int .i64 m.a.type) ∧ W.cell? ⟨gx, 4, none⟩ = some (.int .i64 m.a.ttl) ∧ W.cell? ⟨gx, 5, none⟩ = some (.string xn) ∧ W.cell? ⟨gx, 6, none⟩ = some (.string xsn) ∧ W.cell? ⟨gx, 7, none⟩ = some (.int .i64 m.a.s.ty) ∧ W.cell? ⟨gx, 8, none⟩ = some (.int .i64 m.a.s.cl) ∧ W.cell? ⟨gx, 9, none⟩ = some (.int .i64 m.a.s.ttl) ∧ W.cell? ⟨gx, 10, none⟩ = some (.slice m.A xl m.d)) := hid (fun W y => by
                  have b := BZ.out.ext y
                  exact ⟨b.cell 0, b.cell 1, b.cell 2, b.cell 3, b.cell 4, b.cell 5, b.cell 6, b.cell 7, b.cell 8, b.cell 9, b.cell 10⟩)
                clear hrs y0 y1 y2 y3 y4 y5 y6 y7 y8 y9 y10
                go_upto_region 25 with (fail)
                refine wp_region_noPanic ?_
                refine region_E (S := fun W => W.cell? ⟨gx, 0, none⟩ = some (.int .i64 m.a.kind) ∧ W.cell? ⟨gx, 1, none⟩ = some (.int .i64 m.a.now) ∧ W.cell? ⟨gx, 2, none⟩ = some (.int .i64 m.a.rank) ∧ W.cell? ⟨gx, 3, none⟩ = some (.int .i64 m.a.type) ∧ W.cell? ⟨gx, 4, none⟩ = some (.int .i64 m.a.ttl) ∧ W.cell? ⟨gx, 5, none⟩ = some (.string xn) ∧ W.cell? ⟨gx, 6, none⟩ = some (.string xsn) ∧ W.cell? ⟨gx, 7, none⟩ = some (.int .i64 m.a.s.ty) ∧ W.cell? ⟨gx, 8, none⟩ = some (.int .i64 m.a.s.cl) ∧ W.cell? ⟨gx, 9, none⟩ = some (.int .i64 m.a.s.ttl) ∧ W.cell? ⟨gx, 10, none⟩ = some (.slice m.A xl m.d)) 13 (by kernel_rfl) (by kernel_rfl) (by kernel_rfl) ?_
                refine EG_take 0 (v := ?v133) (by simp only [List.getElem?_toArray, List.getElem?_cons_succ, List.getElem?_cons_zero]; rfl) (by kernel_rfl) (by kernel_rfl) (by decide) (fun _ _ _ h => h) (Or.inl ⟨by rfl, ?hy133⟩) (KEEP.out _ (ext_drew _)) ?rest133
                case hy133 => intro W hSW; (try dsimp only at hSW); obtain ⟨e0, e1, e2, e3, e4, e5, e6, e7, e8, e9, e10⟩ := hSW; go_simp <;> with_reducible rfl
                try simp only [Act.put, List.setIfInBounds_toArray, List.set_cons_zero, List.set_cons_succ]
                refine EG_take 1 (v := ?v134) (by simp only [List.getElem?_toArray, List.getElem?_cons_succ, List.getElem?_cons_zero]; rfl) (by kernel_rfl) (by kernel_rfl) (by decide) (fun _ _ _ h => h) (Or.inl ⟨by rfl, ?hy134⟩) (KEEP.out _ (ext_drew _)) ?rest134
                case hy134 => intro W hSW; (try dsimp only at hSW); obtain ⟨e0, e1, e2, e3, e4, e5, e6, e7, e8, e9, e10⟩ := hSW; go_simp <;> with_reducible rfl
                try simp only [Act.put, List.setIfInBounds_toArray, List.set_cons_zero, List.set_cons_succ]
                refine EG_take 2 (v := ?v135) (by simp only [List.getElem?_toArray, List.getElem?_cons_succ, List.getElem?_cons_zero]; rfl) (by kernel_rfl) (by kernel_rfl) (by decide) (fun _ _ _ h => h) (Or.inl ⟨by rfl, ?hy135⟩) (KEEP.out _ (ext_drew _)) ?rest135
                case hy135 => intro W hSW; (try dsimp only at hSW); obtain ⟨e0, e1, e2, e3, e4, e5, e6, e7, e8, e9, e10⟩ := hSW; go_simp <;> with_reducible rfl
                try simp only [Act.put, List.setIfInBounds_toArray, List.set_cons_zero, List.set_cons_succ]
                refine EG_take 3 (v := ?v136) (by simp only [List.getElem?_toArray, List.getElem?_cons_succ, List.getElem?_cons_zero]; rfl) (by kernel_rfl) (by kernel_rfl) (by decide) (fun _ _ _ h => h) (Or.inl ⟨by rfl, ?hy136⟩) (KEEP.out _ (ext_drew _)) ?rest136
                case hy136 => intro W hSW; (try dsimp only at hSW); obtain ⟨e0, e1, e2, e3, e4, e5, e6, e7, e8, e9, e10⟩ := hSW; go_simp <;> with_reducible rfl
                try simp only [Act.put, List.setIfInBounds_toArray, List.set_cons_zero, List.set_cons_succ]
                refine EG_take 4 (v := ?v137) (by simp only [List.getElem?_toArray, List.getElem?_cons_succ, List.getElem?_cons_zero]; rfl) (by kernel_rfl) (by kernel_rfl) (by decide) (fun _ _ _ h => h) (Or.inl ⟨by rfl, ?hy137⟩) (KEEP.out _ (ext_drew _)) ?rest137
                case hy137 => intro W hSW; (try dsimp only at hSW); obtain ⟨e0, e1, e2, e3, e4, e5, e6, e7, e8, e9, e10⟩ := hSW; go_simp <;> with_reducible rfl
                try simp only [Act.put, List.setIfInBounds_toArray, List.set_cons_zero, List.set_cons_succ]
                refine EG_take 5 (v := ?v138) (by simp only [List.getElem?_toArray, List.getElem?_cons_succ, List.getElem?_cons_zero]; rfl) (by kernel_rfl) (by kernel_rfl) (by decide) (fun _ _ _ h => h) (Or.inl ⟨by rfl, ?hy138⟩) (KEEP.out _ (ext_drew _)) ?rest138
                case hy138 => intro W hSW; (try dsimp only at hSW); obtain ⟨e0, e1, e2, e3, e4, e5, e6, e7, e8, e9, e10⟩ := hSW; go_simp <;> with_reducible rfl
                try simp only [Act.put, List.setIfInBounds_toArray, List.set_cons_zero, List.set_cons_succ]
                refine EG_take 6 (v := ?v139) (by simp only [List.getElem?_toArray, List.getElem?_cons_succ, List.getElem?_cons_zero]; rfl) (by kernel_rfl) (by kernel_rfl) (by decide) (fun _ _ _ h => h) (Or.inl ⟨by rfl, ?hy139⟩) (KEEP.out _ (ext_drew _)) ?rest139
                case hy139 => intro W hSW; (try dsimp only at hSW); obtain ⟨e0, e1, e2, e3, e4, e5, e6, e7, e8, e9, e10⟩ := hSW; go_simp <;> with_reducible rfl
                try simp only [Act.put, List.setIfInBounds_toArray, List.set_cons_zero, List.set_cons_succ]
                refine EG_take 7 (v := ?v140) (by simp only [List.getElem?_toArray, List.getElem?_cons_succ, List.getElem?_cons_zero]; rfl) (by kernel_rfl) (by kernel_rfl) (by decide) (fun _ _ _ h => h) (Or.inl ⟨by rfl, ?hy140⟩) (KEEP.out _ (ext_drew _)) ?rest140
                case hy140 => intro W hSW; (try dsimp only at hSW); obtain ⟨e0, e1, e2, e3, e4, e5, e6, e7, e8, e9, e10⟩ := hSW; go_simp <;> with_reducible rfl
                try simp only [Act.put, List.setIfInBounds_toArray, List.set_cons_zero, List.set_cons_succ]
                refine EG_take 8 (v := ?v141) (by simp only [List.getElem?_toArray, List.getElem?_cons_succ, List.getElem?_cons_zero]; rfl) (by kernel_rfl) (by kernel_rfl) (by decide) (fun _ _ _ h => h) (Or.inl ⟨by rfl, ?hy141⟩) (KEEP.out _ (ext_drew _)) ?rest141
                case hy141 => intro W hSW; (try dsimp only at hSW); obtain ⟨e0, e1, e2, e3, e4, e5, e6, e7, e8, e9, e10⟩ := hSW; go_simp <;> with_reducible rfl
                try simp only [Act.put, List.setIfInBounds_toArray, List.set_cons_zero, List.set_cons_succ]
                refine EG_take 10 (v := ?v142) (by simp only [List.getElem?_toArray, List.getElem?_cons_succ, List.getElem?_cons_zero]; rfl) (by kernel_rfl) (by kernel_rfl) (by decide) (fun _ _ _ h => h) (Or.inl ⟨by rfl, ?hy142⟩) (KEEP.out _ (ext_drew _)) ?rest142
                case hy142 => intro W hSW; (try dsimp only at hSW); obtain ⟨e0, e1, e2, e3, e4, e5, e6, e7, e8, e9, e10⟩ := hSW; go_simp <;> with_reducible rfl
                try simp only [Act.put, List.setIfInBounds_toArray, List.set_cons_zero, List.set_cons_succ]
                refine EG_take 11 (v := ?v143) (by simp only [List.getElem?_toArray, List.getElem?_cons_succ, List.getElem?_cons_zero]; rfl) (by kernel_rfl) (by kernel_rfl) (by decide) (fun _ _ _ h => h) (Or.inl ⟨by rfl, ?hy143⟩) (KEEP.out _ (ext_drew _)) ?rest143
                case hy143 => intro W hSW; (try dsimp only at hSW); obtain ⟨e0, e1, e2, e3, e4, e5, e6, e7, e8, e9, e10⟩ := hSW; go_simp <;> with_reducible rfl
                try simp only [Act.put, List.setIfInBounds_toArray, List.set_cons_zero, List.set_cons_succ]
                refine EG_one 9 (by kernel_rfl) (by simp only [List.getElem?_toArray, List.getElem?_cons_succ, List.getElem?_cons_zero]; rfl) (by decide) ?_
                intro K hK0
                have hK := hid hK0
                clear hK0
                go_simp
                refine (CG.out).mono ?_
                rintro e w3 ⟨A3, c3, rfl, o3, q3, s3⟩
                have PC3 := hid (PutC.step PC0.out (ext_trans EZ.out (ext_drew _)) (qc_more q3 s3.size) s3)
                have b3 := (BZ.out.ext (ext_drew _)).shy s3 HGU.out
                have S3 : Hid (w3.cell? ⟨gx, 0, none⟩ = some (.int .i64 m.a.kind) ∧ w3.cell? ⟨gx, 1, none⟩ = some (.int .i64 m.a.now) ∧ w3.cell? ⟨gx, 2, none⟩ = some (.int .i64 m.a.rank) ∧ w3.cell? ⟨gx, 3, none⟩ = some (.int .i64 m.a.type) ∧ w3.cell? ⟨gx, 4, none⟩ = some (.int .i64 m.a.ttl) ∧ w3.cell? ⟨gx, 5, none⟩ = some (.string xn) ∧ w3.cell? ⟨gx, 6, none⟩ = some (.string xsn) ∧ w3.cell? ⟨gx, 7, none⟩ = some (.int .i64 m.a.s.ty) ∧ w3.cell? ⟨gx, 8, none⟩ = some (.int .i64 m.a.s.cl) ∧ w3.cell? ⟨gx, 9, none⟩ = some (.int .i64 m.a.s.ttl) ∧ w3.cell? ⟨gx, 10, none⟩ = some (.slice m.A xl m.d)) := hid ⟨b3.cell 0, b3.cell 1, b3.cell 2, b3.cell 3, b3.cell 4, b3.cell 5, b3.cell 6, b3.cell 7, b3.cell 8, b3.cell 9, b3.cell 10⟩
                have KEEP3 : Hid (∀ W, Ext w3 W → W.cell? ⟨gx, 0, none⟩ = some (.int .i64 m.a.kind) ∧ W.cell? ⟨gx, 1, none⟩ = some (.int .i64 m.a.now) ∧ W.cell? ⟨gx, 2, none⟩ = some (.int .i64 m.a.rank) ∧ W.cell? ⟨gx, 3, none⟩ = some (.int .i64 m.a.type) ∧ W.cell? ⟨gx, 4, none⟩ = some (.int .i64 m.a.ttl) ∧ W.cell? ⟨gx, 5, none⟩ = some (.string xn) ∧ W.cell? ⟨gx, 6, none⟩ = some (.string xsn) ∧ W.cell? ⟨gx, 7, none⟩ = some (.int .i64 m.a.s.ty) ∧ W.cell? ⟨gx, 8, none⟩ = some (.int .i64 m.a.s.cl) ∧ W.cell? ⟨gx, 9, none⟩ = some (.int .i64 m.a.s.ttl) ∧ W.cell? ⟨gx, 10, none⟩ = some (.slice m.A xl m.d)) := hid (fun W y => by
                  have b := b3.ext y
                  exact ⟨b.cell 0, b.cell 1, b.cell 2, b.cell 3, b.cell 4, b.cell 5, b.cell 6, b.cell 7, b.cell 8, b.cell 9, b.cell 10⟩)
                have CT : Hid (Calls Try.prog 30 #[foundV f A3 c3, .slice A1 P.length c1, .agg #[.int .i64 m.a.kind, .int .i64 m.a.now, .int .i64 m.a.rank, .int .i64 m.a.type, .int .i64 m.a.ttl, .string xn, .string xsn, .int .i64 m.a.s.ty, .int .i64 m.a.s.cl, .int .i64 m.a.s.ttl, .slice m.A xl m.d]] w3 fun e w' => e = .returned (.bool true) ∧ Ext w3 w') := hid (by
                  have ec : (cellsA m).toArray = #[.int .i64 m.a.kind, .int .i64 m.a.now, .int .i64 m.a.rank, .int .i64 m.a.type, .int .i64 m.a.ttl, .string xn, .string xsn, .int .i64 m.a.s.ty, .int .i64 m.a.s.cl, .int .i64 m.a.s.ttl, .slice m.A xl m.d] := by unfold cellsA; rw [HXN.out, HXSN.out, HXL.out]
                  rw [← ec]
                  rcases TO.out.2 with h0 | ⟨h0, h2⟩
                  · exact told_none h0
                  · exact told_in o3.rd (putsR_of PC3.out HP.out (ext_refl _)) HWF.out (by omega) hin h0 h2)
                clear o3 q3 s3 b3 CG
                unfold foundV at CT ⊢
                go_simp
                refine hK.out _ _ (KEEP3.out _ (ext_refl _)) ?_
                clear hK K
                try simp only [Act.put, List.setIfInBounds_toArray, List.set_cons_zero, List.set_cons_succ]
                refine EG_one 12 (by kernel_rfl) (by simp only [List.getElem?_toArray, List.getElem?_cons_succ, List.getElem?_cons_zero]; rfl) (by decide) ?_
                intro K hK0
                have hK := hid hK0
                clear hK0
                go_simp
                refine CT.out.mono ?_
                rintro e w5 ⟨rfl, x5⟩
                have PC9 := hid (PC3.out.ext x5)
                have X5 := hid x5
                clear x5 CT
                go_simp
                refine hK.out _ _ (KEEP3.out _ X5.out) ?_
                clear hK K
                try simp only [Act.put, List.setIfInBounds_toArray, List.set_cons_zero, List.set_cons_succ]
                refine EG_end (by kernel_rfl) (by simp only [List.getElem?_toArray, List.getElem?_cons_succ, List.getElem?_cons_zero]; rfl) ?_
                intro K hK0
                have hK := hid hK0
                clear hK0
                go_simp
                refine hK.out _ _ ?_
                clear hK K
                refine NoPanic.normal ?_
                have INV9 := hid TO.out.1
                have HP9 := HP
                have CL := c_len PC9.out.q
                simp only [pt] at CL
                obtain ⟨ln, hln⟩ : ∃ ln, s'.L.length = ln := ⟨_, rfl⟩
                have hlm := PC9.out.q.1.2.2.1
                rw [hln] at CL hlm
                have CL := hid CL
                have l1 : decide (most < (ln : Int)) = false := (by simpa using hlm)
                have l2 : decide ((ln : Int) < 0) = false := (by simp)
                have REL : TrRel w g most M (.slice A1 P.length c1) (.int .i64 ((k : Int) + 1)) w5 := ⟨k + 1, A1, c1, s', P, m.a.now, by omega, by go_num, by first | rfl | (rw [List.length_append]; done) | (rw [List.length_append]; rfl), by (try rw [List.length_append, List.length_singleton]); omega, PC9.out, HP9.out, INV9.out, fun _ => ⟨by rw [Nat.add_sub_cancel, HME.out], hin⟩, fun h => by omega⟩
                have REL := hid REL
                clear hln hlm
                clear KEEP KEEP3
                go_wp2_with fail
                refine CL.out.mono ?_
                rintro e _ ⟨rfl, rfl⟩
                go_wp2_with fail
                refine CL.out.mono ?_
                rintro e _ ⟨rfl, rfl⟩
                go_wp2_with fail
                go_roundw
                case rel => exact REL.out
                case measure => simp [intOf]; omega
            · as_aux_lemma =>
                have CL0 := c_len QZ.out
                have CW := c_sweep QZ.out m.a.now
                have TS := true_sweep INV.out hup hin
                obtain ⟨rs, hrs⟩ : ∃ rs, sweepG s m.a.now = rs := ⟨_, rfl⟩
                rw [hrs] at CW TS
                obtain ⟨s', sn⟩ := rs
                simp only at CW TS
                obtain ⟨ts1, ts2, ts3⟩ := TS
                obtain ⟨l0, hl0⟩ : ∃ l0, s.L.length = l0 := ⟨_, rfl⟩
                rw [hl0] at CL0 ts2 ts3
                simp only [pt] at CL0 CW
                have CL0 := hid CL0
                have CW := hid CW
                have INV9 := hid ts1
                have hl09 := PC0.out.q.1.2.2.1
                rw [hl0] at hl09
                clear hrs hl0 ts1 y0 y2 y3 y4 y5 y6 y7 y8 y9 y10
                go_wp2_with fail
                refine CL0.out.mono ?_
                rintro e _ ⟨rfl, rfl⟩
                go_wp2_with fail
                refine CW.out.mono ?_
                rintro e w3 ⟨rfl, q3, s3⟩
                have PC9 := hid (PutC.step PC0.out EZ.out (qc_more q3 s3.size) s3)
                have HP9 := HP
                clear q3 s3 CW CL0 y1
                have CL := c_len PC9.out.q
                simp only [pt] at CL
                obtain ⟨ln, hln⟩ : ∃ ln, s'.L.length = ln := ⟨_, rfl⟩
                have hlm := PC9.out.q.1.2.2.1
                rw [hln] at CL hlm ts2 ts3
                have CL := hid CL
                have l1 : decide (most < (ln : Int)) = false := (by simpa using hlm)
                have l2 : decide ((ln : Int) < 0) = false := (by simp)
                have REL : TrRel w g most M (.slice A1 P.length c1) (.int .i64 ((k : Int) + 1)) w3 := ⟨k + 1, A1, c1, s', P, m.a.now, by omega, by go_num, by first | rfl | (rw [List.length_append]; done) | (rw [List.length_append]; rfl), by (try rw [List.length_append, List.length_singleton]); omega, PC9.out, HP9.out, INV9.out, fun _ => ⟨by rw [Nat.add_sub_cancel, HME.out], hin⟩, fun h => by omega⟩
                have REL := hid REL
                clear hln hlm
                have u1 : wrap64 ((l0 : Int) - (ln : Int)) = (sn : Int) := by rw [show (l0 : Int) - (ln : Int) = (sn : Int) from by omega]; exact IntWalk.wrap64_in _ (by omega)
                have u2 : IntKind.i64.wrap ((l0 : Int) - (ln : Int)) = (sn : Int) := by rw [show (l0 : Int) - (ln : Int) = (sn : Int) from by omega]; exact IntWalk.i64_in _ (by omega)
                have u3 : (l0 : Int) - (ln : Int) = (sn : Int) := by omega
                have u4 : ((sn : Int) != (sn : Int)) = false := by simp
                clear u3 ts2 ts3
                go_wp2_with fail
                refine CL.out.mono ?_
                rintro e _ ⟨rfl, rfl⟩
                go_wp2_with fail
                refine CL.out.mono ?_
                rintro e _ ⟨rfl, rfl⟩
                go_wp2_with fail
                refine CL.out.mono ?_
                rintro e _ ⟨rfl, rfl⟩
                go_wp2_with fail
                go_roundw
                case rel => exact REL.out
                case measure => simp [intOf]; omega
            · have t3 : (pk == 3) = false := by simp; omega
              have t4 : (pk == 4) = false := by simp; omega
              have t5 : (pk == 5) = false := by simp; omega
              have t6 : (pk == 6) = false := by simp; omega
              have t7 : (pk == 7) = false := by simp; omega
              have CP := c_put_any QZ.out (x := m.a.s) (A := m.A) (c := m.d) (rank := m.a.rank) (at_ := m.a.now) (HRT.out.1.ext (ext_trans PC0.out.x EZ.out)) (by omega) (fun d hd => by have := SM4.out d hd; omega) (fun h1 q hq e => by obtain ⟨b9, h9, h99⟩ := HRT.out.1.lt (by omega); rw [h9] at hq; injection hq with hq; subst hq; have := e.1; omega)
              have TI := true_put (most := most) INV.out (x := m.a.s) (rank := m.a.rank) (at_ := m.a.now) hup m.A m.d
              obtain ⟨rs, hrs⟩ : ∃ rs, putG most s m.a.s m.a.rank m.a.now = rs := ⟨_, rfl⟩
              rw [hrs] at CP TI
              obtain ⟨s', bb, er⟩ := rs
              simp only at CP TI
              rw [HXSN.out, HXL.out] at CP
              simp only [pt] at CP
              have CP := hid CP
              have TI := hid TI
              clear hrs
              go_wp2_with fail
              refine CP.out.mono ?_
              rintro e w3 ⟨rfl, q3, s3⟩
              have PC3 := hid (PutC.step PC0.out EZ.out q3 s3)
              have b3 := BZ.out.shy s3 HGU.out
              clear q3 s3 CP y0 y1 y2 y3 y4 y5 y6 y7 y8 y9 y10
              have y1 := b3.cell 1
              have y2 := b3.cell 2
              have y6 := b3.cell 6
              have y7 := b3.cell 7
              have y8 := b3.cell 8
              have y9 := b3.cell 9
              have y10 := b3.cell 10
              simp at y1 y2 y6 y7 y8 y9 y10
              clear b3
              cases bb with
              | false =>
                have INV9 := hid (TI.out.2 rfl)
                have HP9 := HP
                have PC9 := PC3
                have CL := c_len PC9.out.q
                simp only [pt] at CL
                obtain ⟨ln, hln⟩ : ∃ ln, s'.L.length = ln := ⟨_, rfl⟩
                have hlm := PC9.out.q.1.2.2.1
                rw [hln] at CL hlm
                have CL := hid CL
                have l1 : decide (most < (ln : Int)) = false := (by simpa using hlm)
                have l2 : decide ((ln : Int) < 0) = false := (by simp)
                have REL : TrRel w g most M (.slice A1 P.length c1) (.int .i64 ((k : Int) + 1)) w3 := ⟨k + 1, A1, c1, s', P, m.a.now, by omega, by go_num, by first | rfl | (rw [List.length_append]; done) | (rw [List.length_append]; rfl), by (try rw [List.length_append, List.length_singleton]); omega, PC9.out, HP9.out, INV9.out, fun _ => ⟨by rw [Nat.add_sub_cancel, HME.out], hin⟩, fun h => by omega⟩
                have REL := hid REL
                clear hln hlm
                go_wp2_with fail
                refine CL.out.mono ?_
                rintro e _ ⟨rfl, rfl⟩
                go_wp2_with fail
                refine CL.out.mono ?_
                rintro e _ ⟨rfl, rfl⟩
                go_wp2_with fail
                go_roundw
                case rel => exact REL.out
                case measure => simp [intOf]; omega
              | true =>
                have NEW : Hid (WfP (putOf m.a.s m.a.rank m.a.now m.A m.d).p ∧ RdG w 1 (putOf m.a.s m.a.rank m.a.now m.A m.d).A (putOf m.a.s m.a.rank m.a.now m.A m.d).p.s.data.length (putOf m.a.s m.a.rank m.a.now m.A m.d).d (tvs (putOf m.a.s m.a.rank m.a.now m.A m.d).p.s.data)) := hid (by
                  obtain ⟨_, t1, t2, t8, t9⟩ := TI.out.1 rfl
                  refine ⟨⟨by show m.a.s.nm.length ≤ 2000000; omega, HWF.out.s.ty, chk_ttl t1, ⟨by show -9223372036854775808 ≤ m.a.rank; omega, by show m.a.rank ≤ 9223372036854775807; omega⟩, t2, HWF.out.s.ttl⟩, HRT.out.1⟩)
                have xa := ext_alloc w3 (.cells #[.string xsn, .int .i64 m.a.s.ty, .string xsn, .int .i64 m.a.s.ty, .int .i64 m.a.s.cl, .int .i64 m.a.s.ttl, .slice m.A xl m.d, .bool true, .int .i64 m.a.s.ttl, .int .i64 m.a.rank, .int .i64 m.a.now] 69)
                have bn := Blk.new w3 69 #[.string xsn, .int .i64 m.a.s.ty, .string xsn, .int .i64 m.a.s.ty, .int .i64 m.a.s.cl, .int .i64 m.a.s.ttl, .slice m.A xl m.d, .bool true, .int .i64 m.a.s.ttl, .int .i64 m.a.rank, .int .i64 m.a.now]
                obtain ⟨wn, hwn⟩ : ∃ wn, w3.alloc (.cells #[.string xsn, .int .i64 m.a.s.ty, .string xsn, .int .i64 m.a.s.ty, .int .i64 m.a.s.cl, .int .i64 m.a.s.ttl, .slice m.A xl m.d, .bool true, .int .i64 m.a.s.ttl, .int .i64 m.a.rank, .int .i64 m.a.now] 69) = wn := ⟨_, rfl⟩
                obtain ⟨gn, hgn⟩ : ∃ gn, w3.heap.size = gn := ⟨_, rfl⟩
                rw [hwn] at xa bn
                rw [hgn] at bn
                have src : RdG wn 11 (some ⟨gn, 0, none⟩) 1 1 (cellsP (putOf m.a.s m.a.rank m.a.now m.A m.d)) := ⟨rfl, Nat.le_refl _, by simp [maxLen], fun _ => ⟨gn, 0, rfl, bn.lt, fun j u hj => by
                  rw [Nat.zero_add, bn.cell]
                  have e9 : (cellsP (putOf m.a.s m.a.rank m.a.now m.A m.d)).toArray = #[.string xsn, .int .i64 m.a.s.ty, .string xsn, .int .i64 m.a.s.ty, .int .i64 m.a.s.cl, .int .i64 m.a.s.ttl, .slice m.A xl m.d, .bool true, .int .i64 m.a.s.ttl, .int .i64 m.a.rank, .int .i64 m.a.now] := by first | (rw [← HXN.out]; rfl) | (rw [← HXSN.out, ← HXL.out]; rfl)
                  rw [← e9]
                  simpa using hj⟩⟩
                have dst := PC3.out.o.ext xa
                have PCN := hid (PC3.out.ext xa)
                have SRC := hid src
                have DST := hid dst
                have HPN9 : Hid (∀ q ∈ P ++ [putOf m.a.s m.a.rank m.a.now m.A m.d], WfP q.p ∧ RdG w 1 q.A q.p.s.data.length q.d (tvs q.p.s.data)) := hid (fun q hq => by
                  rcases List.mem_append.1 hq with hq | hq
                  · exact HP.out q hq
                  · rw [List.mem_singleton] at hq
                    subst hq
                    exact NEW.out)
                have hwz9 : w.heap.size ≤ wn.heap.size := PCN.out.x.size
                have hpl9 : P.length ≤ 100 := by omega
                have INV9 := hid (TI.out.1 rfl).1
                clear xa bn src dst
                go_wp2_with (at_builtin; go_must (refine wpList_append_g (ok := okP) rfl (.tmp 85) (.tmp 102) 67 rfl w.heap.size 69 i0 (.agg #[.string ⟨#[]⟩, .int .i64 0, .string ⟨#[]⟩, .int .i64 0, .int .i64 0, .int .i64 0, .slice none 0 0, .bool false, .int .i64 0, .int .i64 0, .int .i64 0]) 11 120 Try.underlying67 hi hz0 hz1 hz2 rfl (by decide) zeroP (fun _ h => h) rfl DST.out rfl SRC.out (okP_cells _) (by omega) (by unfold maxLen; omega) (by omega) ?_; intro A6 c6 w6 o6 g6 n6; have PC9 : Hid (PutC w w6 g most s' A6 c6 (P ++ [putOf m.a.s m.a.rank m.a.now m.A m.d])) := hid (PCN.out.app (by rw [List.length_append, ← cellsPM_app]; exact o6) g6 (fun q hq => by (rcases n6 with n6 | n6; (left; rw [← n6]; exact hq); (right; rw [n6] at hq; simp at hq; omega)))); have HP9 := HPN9; clear o6 g6 n6; have CL := c_len PC9.out.q; simp only [pt] at CL; obtain ⟨ln, hln⟩ : ∃ ln, s'.L.length = ln := ⟨_, rfl⟩; have hlm := PC9.out.q.1.2.2.1; rw [hln] at CL hlm; have CL := hid CL; have l1 : decide (most < (ln : Int)) = false := (by simpa using hlm); have l2 : decide ((ln : Int) < 0) = false := (by simp); have REL : TrRel w g most M (.slice A6 (P.length + 1) c6) (.int .i64 ((k : Int) + 1)) w6 := ⟨k + 1, A6, c6, s', P ++ [putOf m.a.s m.a.rank m.a.now m.A m.d], m.a.now, by omega, by go_num, by first | rfl | (rw [List.length_append]; done) | (rw [List.length_append]; rfl), by (try rw [List.length_append, List.length_singleton]); omega, PC9.out, HP9.out, INV9.out, fun _ => ⟨by rw [Nat.add_sub_cancel, HME.out], hin⟩, fun h => by omega⟩; have REL := hid REL; clear hln hlm))
                refine CL.out.mono ?_
                rintro e _ ⟨rfl, rfl⟩
                go_wp2_with fail
                refine CL.out.mono ?_
                rintro e _ ⟨rfl, rfl⟩
                go_wp2_with fail
                go_roundw
                case rel => exact REL.out
                case measure => simp [intOf]; omega
        · have d3 : decide ((0 : Int) < (k : Int)) = false := by simp; omega
          have KEEP : Hid (∀ W, Ext wp W → W.cell? ⟨gx, 1, none⟩ = some (.int .i64 m.a.now)) := hid (fun W y => (BX.out.ext y).cell 1)
          have hup : t ≤ m.a.now := by rw [HT0.out (by omega)]; omega
          refine wp_region_noPanic ?_
          refine region_E (S := fun W => W.cell? ⟨gx, 1, none⟩ = some (.int .i64 m.a.now)) 22 (by kernel_rfl) (by kernel_rfl) (by kernel_rfl) ?_
          refine EG_take 0 (v := ?v89) (by simp only [List.getElem?_toArray, List.getElem?_cons_succ, List.getElem?_cons_zero]; rfl) (by kernel_rfl) (by kernel_rfl) (by decide) (fun _ _ _ h => h) (Or.inl ⟨by rfl, ?hy89⟩) (KEEP.out _ (ext_drew _)) ?rest89
          case hy89 => intro W hSW; (try dsimp only at hSW); obtain e0 := hSW; go_simp <;> with_reducible rfl
          try simp only [Act.put, List.setIfInBounds_toArray, List.set_cons_zero, List.set_cons_succ]
          refine EG_take 1 (v := ?v90) (by simp only [List.getElem?_toArray, List.getElem?_cons_succ, List.getElem?_cons_zero]; rfl) (by kernel_rfl) (by kernel_rfl) (by decide) (fun _ _ _ h => h) (Or.inl ⟨by rfl, ?hy90⟩) (KEEP.out _ (ext_drew _)) ?rest90
          case hy90 => intro W hSW; (try dsimp only at hSW); obtain e0 := hSW; go_simp <;> with_reducible rfl
          try simp only [Act.put, List.setIfInBounds_toArray, List.set_cons_zero, List.set_cons_succ]
          refine EG_take 2 (v := ?v91) (by simp only [List.getElem?_toArray, List.getElem?_cons_succ, List.getElem?_cons_zero]; rfl) (by kernel_rfl) (by kernel_rfl) (by decide) (fun _ _ _ h => h) (Or.inl ⟨by rfl, ?hy91⟩) (KEEP.out _ (ext_drew _)) ?rest91
          case hy91 => intro W hSW; (try dsimp only at hSW); obtain e0 := hSW; go_simp <;> with_reducible rfl
          try simp only [Act.put, List.setIfInBounds_toArray, List.set_cons_zero, List.set_cons_succ]
          refine EG_take 3 (v := ?v92) (by simp only [List.getElem?_toArray, List.getElem?_cons_succ, List.getElem?_cons_zero]; rfl) (by kernel_rfl) (by kernel_rfl) (by decide) (fun _ _ _ h => h) (Or.inl ⟨by rfl, ?hy92⟩) (KEEP.out _ (ext_drew _)) ?rest92
          case hy92 => intro W hSW; (try dsimp only at hSW); obtain e0 := hSW; go_simp <;> with_reducible rfl
          try simp only [Act.put, List.setIfInBounds_toArray, List.set_cons_zero, List.set_cons_succ]
          refine EG_take 4 (v := ?v93) (by simp only [List.getElem?_toArray, List.getElem?_cons_succ, List.getElem?_cons_zero]; rfl) (by kernel_rfl) (by kernel_rfl) (by decide) (fun _ _ _ h => h) (Or.inl ⟨by rfl, ?hy93⟩) (KEEP.out _ (ext_drew _)) ?rest93
          case hy93 => intro W hSW; (try dsimp only at hSW); obtain e0 := hSW; go_simp <;> with_reducible rfl
          try simp only [Act.put, List.setIfInBounds_toArray, List.set_cons_zero, List.set_cons_succ]
          refine EG_take 5 (v := ?v94) (by simp only [List.getElem?_toArray, List.getElem?_cons_succ, List.getElem?_cons_zero]; rfl) (by kernel_rfl) (by kernel_rfl) (by decide) (fun _ _ _ h => h) (Or.inl ⟨by rfl, ?hy94⟩) (KEEP.out _ (ext_drew _)) ?rest94
          case hy94 => intro W hSW; (try dsimp only at hSW); obtain e0 := hSW; go_simp <;> with_reducible rfl
          try simp only [Act.put, List.setIfInBounds_toArray, List.set_cons_zero, List.set_cons_succ]
          refine EG_take 6 (v := ?v95) (by simp only [List.getElem?_toArray, List.getElem?_cons_succ, List.getElem?_cons_zero]; rfl) (by kernel_rfl) (by kernel_rfl) (by decide) (fun _ _ _ h => h) (Or.inl ⟨by rfl, ?hy95⟩) (KEEP.out _ (ext_drew _)) ?rest95
          case hy95 => intro W hSW; (try dsimp only at hSW); obtain e0 := hSW; go_simp <;> with_reducible rfl
          try simp only [Act.put, List.setIfInBounds_toArray, List.set_cons_zero, List.set_cons_succ]
          refine EG_take 7 (v := ?v96) (by simp only [List.getElem?_toArray, List.getElem?_cons_succ, List.getElem?_cons_zero]; rfl) (by kernel_rfl) (by kernel_rfl) (by decide) (fun _ _ _ h => h) (Or.inl ⟨by rfl, ?hy96⟩) (KEEP.out _ (ext_drew _)) ?rest96
          case hy96 => intro W hSW; (try dsimp only at hSW); obtain e0 := hSW; go_simp <;> with_reducible rfl
          try simp only [Act.put, List.setIfInBounds_toArray, List.set_cons_zero, List.set_cons_succ]
          refine EG_take 8 (v := ?v97) (by simp only [List.getElem?_toArray, List.getElem?_cons_succ, List.getElem?_cons_zero]; rfl) (by kernel_rfl) (by kernel_rfl) (by decide) (fun _ _ _ h => h) (Or.inl ⟨by rfl, ?hy97⟩) (KEEP.out _ (ext_drew _)) ?rest97
          case hy97 => intro W hSW; (try dsimp only at hSW); obtain e0 := hSW; go_simp <;> with_reducible rfl
          try simp only [Act.put, List.setIfInBounds_toArray, List.set_cons_zero, List.set_cons_succ]
          refine EG_take 9 (v := ?v98) (by simp only [List.getElem?_toArray, List.getElem?_cons_succ, List.getElem?_cons_zero]; rfl) (by kernel_rfl) (by kernel_rfl) (by decide) (fun _ _ _ h => h) (Or.inl ⟨by rfl, ?hy98⟩) (KEEP.out _ (ext_drew _)) ?rest98
          case hy98 => intro W hSW; (try dsimp only at hSW); obtain e0 := hSW; go_simp <;> with_reducible rfl
          try simp only [Act.put, List.setIfInBounds_toArray, List.set_cons_zero, List.set_cons_succ]
          refine EG_take 10 (v := ?v99) (by simp only [List.getElem?_toArray, List.getElem?_cons_succ, List.getElem?_cons_zero]; rfl) (by kernel_rfl) (by kernel_rfl) (by decide) (fun _ _ _ h => h) (Or.inl ⟨by rfl, ?hy99⟩) (KEEP.out _ (ext_drew _)) ?rest99
          case hy99 => intro W hSW; (try dsimp only at hSW); obtain e0 := hSW; go_simp <;> with_reducible rfl
          try simp only [Act.put, List.setIfInBounds_toArray, List.set_cons_zero, List.set_cons_succ]
          refine EG_take 11 (v := ?v100) (by simp only [List.getElem?_toArray, List.getElem?_cons_succ, List.getElem?_cons_zero]; rfl) (by kernel_rfl) (by kernel_rfl) (by decide) (fun _ _ _ h => h) (Or.inl ⟨by rfl, ?hy100⟩) (KEEP.out _ (ext_drew _)) ?rest100
          case hy100 => intro W hSW; (try dsimp only at hSW); obtain e0 := hSW; go_simp <;> with_reducible rfl
          try simp only [Act.put, List.setIfInBounds_toArray, List.set_cons_zero, List.set_cons_succ]
          refine EG_take 12 (v := undef) (by simp only [List.getElem?_toArray, List.getElem?_cons_succ, List.getElem?_cons_zero]; rfl) (by kernel_rfl) (by kernel_rfl) (by decide) (fun _ _ _ h => h) (Or.inr ⟨by rfl, rfl⟩) (KEEP.out _ (ext_drew _)) ?rest101
          try simp only [Act.put, List.setIfInBounds_toArray, List.set_cons_zero, List.set_cons_succ]
          refine EG_take 13 (v := undef) (by simp only [List.getElem?_toArray, List.getElem?_cons_succ, List.getElem?_cons_zero]; rfl) (by kernel_rfl) (by kernel_rfl) (by decide) (fun _ _ _ h => h) (Or.inr ⟨by rfl, rfl⟩) (KEEP.out _ (ext_drew _)) ?rest102
          try simp only [Act.put, List.setIfInBounds_toArray, List.set_cons_zero, List.set_cons_succ]
          refine EG_take 14 (v := undef) (by simp only [List.getElem?_toArray, List.getElem?_cons_succ, List.getElem?_cons_zero]; rfl) (by kernel_rfl) (by kernel_rfl) (by decide) (fun _ _ _ h => h) (Or.inr ⟨by rfl, rfl⟩) (KEEP.out _ (ext_drew _)) ?rest103
          try simp only [Act.put, List.setIfInBounds_toArray, List.set_cons_zero, List.set_cons_succ]
          refine EG_take 15 (v := undef) (by simp only [List.getElem?_toArray, List.getElem?_cons_succ, List.getElem?_cons_zero]; rfl) (by kernel_rfl) (by kernel_rfl) (by decide) (fun _ _ _ h => h) (Or.inr ⟨by rfl, rfl⟩) (KEEP.out _ (ext_drew _)) ?rest104
          try simp only [Act.put, List.setIfInBounds_toArray, List.set_cons_zero, List.set_cons_succ]
          refine EG_take 16 (v := undef) (by simp only [List.getElem?_toArray, List.getElem?_cons_succ, List.getElem?_cons_zero]; rfl) (by kernel_rfl) (by kernel_rfl) (by decide) (fun _ _ _ h => h) (Or.inr ⟨by rfl, rfl⟩) (KEEP.out _ (ext_drew _)) ?rest105
          try simp only [Act.put, List.setIfInBounds_toArray, List.set_cons_zero, List.set_cons_succ]
          refine EG_take 17 (v := undef) (by simp only [List.getElem?_toArray, List.getElem?_cons_succ, List.getElem?_cons_zero]; rfl) (by kernel_rfl) (by kernel_rfl) (by decide) (fun _ _ _ h => h) (Or.inr ⟨by rfl, rfl⟩) (KEEP.out _ (ext_drew _)) ?rest106
          try simp only [Act.put, List.setIfInBounds_toArray, List.set_cons_zero, List.set_cons_succ]
          refine EG_take 18 (v := undef) (by simp only [List.getElem?_toArray, List.getElem?_cons_succ, List.getElem?_cons_zero]; rfl) (by kernel_rfl) (by kernel_rfl) (by decide) (fun _ _ _ h => h) (Or.inr ⟨by rfl, rfl⟩) (KEEP.out _ (ext_drew _)) ?rest107
          try simp only [Act.put, List.setIfInBounds_toArray, List.set_cons_zero, List.set_cons_succ]
          refine EG_take 19 (v := undef) (by simp only [List.getElem?_toArray, List.getElem?_cons_succ, List.getElem?_cons_zero]; rfl) (by kernel_rfl) (by kernel_rfl) (by decide) (fun _ _ _ h => h) (Or.inr ⟨by rfl, rfl⟩) (KEEP.out _ (ext_drew _)) ?rest108
          try simp only [Act.put, List.setIfInBounds_toArray, List.set_cons_zero, List.set_cons_succ]
          refine EG_take 20 (v := undef) (by simp only [List.getElem?_toArray, List.getElem?_cons_succ, List.getElem?_cons_zero]; rfl) (by kernel_rfl) (by kernel_rfl) (by decide) (fun _ _ _ h => h) (Or.inr ⟨by rfl, rfl⟩) (KEEP.out _ (ext_drew _)) ?rest109
          try simp only [Act.put, List.setIfInBounds_toArray, List.set_cons_zero, List.set_cons_succ]
          refine EG_take 21 (v := ?v110) (by simp only [List.getElem?_toArray, List.getElem?_cons_succ, List.getElem?_cons_zero]; rfl) (by kernel_rfl) (by kernel_rfl) (by decide) (fun _ _ _ h => h) (Or.inl ⟨by rfl, ?hy110⟩) (KEEP.out _ (ext_drew _)) ?rest110
          case hy110 => intro W hSW; (try dsimp only at hSW); obtain e0 := hSW; go_simp <;> with_reducible rfl
          try simp only [Act.put, List.setIfInBounds_toArray, List.set_cons_zero, List.set_cons_succ]
          refine EG_end (by kernel_rfl) (by simp only [List.getElem?_toArray, List.getElem?_cons_succ, List.getElem?_cons_zero]; rfl) ?_
          intro K hK0
          have hK := hid hK0
          clear hK0
          go_simp
          refine hK.out _ _ ?_
          clear hK K
          refine NoPanic.normal ?_
          clear d3 KEEP
          have xz := ext_drew wp
          obtain ⟨wz, hwz⟩ : ∃ wz, wp.drew = wz := ⟨_, rfl⟩
          rw [hwz] at xz ⊢
          have EZ := hid (ext_trans XP.out xz)
          have BZ := hid (BX.out.ext xz)
          have QZ := hid (PC0.out.q.ext EZ.out)
          have HGU : Hid (¬ Up w.heap.size wr A1 gx) := hid (fun e => by have h1 := e.2.1; have h2 := HGX.out; omega)
          have PK := fun W => pick_any m.a.kind 8 W HWF.out.kind (by decide)
          obtain ⟨pk, hpk⟩ : ∃ pk, pick m.a.kind 8 = pk := ⟨_, rfl⟩
          have rpk : 0 ≤ pk ∧ pk < 8 := by have := pick_range m.a.kind 8 (by decide); omega
          rw [hpk] at PK
          have PK := hid PK
          have y0 := BZ.out.cell 0
          have y1 := BZ.out.cell 1
          have y2 := BZ.out.cell 2
          have y3 := BZ.out.cell 3
          have y4 := BZ.out.cell 4
          have y5 := BZ.out.cell 5
          have y6 := BZ.out.cell 6
          have y7 := BZ.out.cell 7
          have y8 := BZ.out.cell 8
          have y9 := BZ.out.cell 9
          have y10 := BZ.out.cell 10
          simp at y0 y1 y2 y3 y4 y5 y6 y7 y8 y9 y10
          clear hpk hwz xz d1 d2 hlow hhi
          go_wp2_with fail
          refine (PK.out _).mono ?_
          rintro e _ ⟨rfl, rfl⟩
          rcases (show pk = 3 ∨ pk = 4 ∨ pk = 5 ∨ pk = 6 ∨ pk = 7 ∨ pk < 3 by omega) with rfl | rfl | rfl | rfl | rfl | hpk
          · have CP := c_none_any QZ.out (n := m.a.nm) (kind := m.a.type) (ttl := m.a.ttl) (at_ := m.a.now) (by omega)
            have TI := true_none (most := most) INV.out (n := m.a.nm) (kind := m.a.type) (ttl := m.a.ttl) (at_ := m.a.now) hup
            obtain ⟨rs, hrs⟩ : ∃ rs, noneG most s m.a.nm m.a.type m.a.ttl m.a.now = rs := ⟨_, rfl⟩
            rw [hrs] at CP TI
            obtain ⟨s', bb, er⟩ := rs
            simp only at CP TI
            rw [HXN.out] at CP
            simp only [pt] at CP
            have CP := hid CP
            have TI := hid TI
            clear hrs
            go_wp2_with fail
            refine CP.out.mono ?_
            rintro e w3 ⟨rfl, q3, s3⟩
            have PC3 := hid (PutC.step PC0.out EZ.out q3 s3)
            have b3 := BZ.out.shy s3 HGU.out
            clear q3 s3 CP y0 y1 y2 y3 y4 y5 y6 y7 y8 y9 y10
            have y1 := b3.cell 1
            have y3 := b3.cell 3
            have y4 := b3.cell 4
            have y5 := b3.cell 5
            simp at y1 y3 y4 y5
            clear b3
            cases bb with
            | false =>
              have INV9 := hid (TI.out.2 rfl)
              have HP9 := HP
              have PC9 := PC3
              have CL := c_len PC9.out.q
              simp only [pt] at CL
              obtain ⟨ln, hln⟩ : ∃ ln, s'.L.length = ln := ⟨_, rfl⟩
              have hlm := PC9.out.q.1.2.2.1
              rw [hln] at CL hlm
              have CL := hid CL
              have l1 : decide (most < (ln : Int)) = false := (by simpa using hlm)
              have l2 : decide ((ln : Int) < 0) = false := (by simp)
              have REL : TrRel w g most M (.slice A1 P.length c1) (.int .i64 ((k : Int) + 1)) w3 := ⟨k + 1, A1, c1, s', P, m.a.now, by omega, by go_num, by first | rfl | (rw [List.length_append]; done) | (rw [List.length_append]; rfl), by (try rw [List.length_append, List.length_singleton]); omega, PC9.out, HP9.out, INV9.out, fun _ => ⟨by rw [Nat.add_sub_cancel, HME.out], hin⟩, fun h => by omega⟩
              have REL := hid REL
              clear hln hlm
              go_wp2_with fail
              refine CL.out.mono ?_
              rintro e _ ⟨rfl, rfl⟩
              go_wp2_with fail
              refine CL.out.mono ?_
              rintro e _ ⟨rfl, rfl⟩
              go_wp2_with fail
              go_roundw
              case rel => exact REL.out
              case measure => simp [intOf]; omega
            | true =>
              have NEW : Hid (WfP (noneOf m.a.nm m.a.type m.a.ttl m.a.now).p ∧ RdG w 1 (noneOf m.a.nm m.a.type m.a.ttl m.a.now).A (noneOf m.a.nm m.a.type m.a.ttl m.a.now).p.s.data.length (noneOf m.a.nm m.a.type m.a.ttl m.a.now).d (tvs (noneOf m.a.nm m.a.type m.a.ttl m.a.now).p.s.data)) := hid (by
                obtain ⟨_, t1, t2, t3⟩ := TI.out.1 rfl
                refine ⟨⟨by show m.a.nm.length ≤ 2000000; omega, ⟨by show -9223372036854775808 ≤ m.a.type; omega, by show m.a.type ≤ 9223372036854775807; omega⟩, ⟨by show 0 ≤ m.a.ttl; omega, by show m.a.ttl ≤ 2147483648; omega⟩, ⟨by show (-9223372036854775808 : Int) ≤ 3; decide, by show (3 : Int) ≤ 9223372036854775807; decide⟩, t3, ⟨by show (-9223372036854775808 : Int) ≤ 0; decide, by show (0 : Int) ≤ 9223372036854775807; decide⟩⟩, RdG.none_ w 1⟩)
              have xa := ext_alloc w3 (.cells #[.string xn, .int .i64 m.a.type, .string ⟨#[]⟩, .int .i64 0, .int .i64 0, .int .i64 0, .slice none 0 0, .bool false, .int .i64 m.a.ttl, .int .i64 3, .int .i64 m.a.now] 69)
              have bn := Blk.new w3 69 #[.string xn, .int .i64 m.a.type, .string ⟨#[]⟩, .int .i64 0, .int .i64 0, .int .i64 0, .slice none 0 0, .bool false, .int .i64 m.a.ttl, .int .i64 3, .int .i64 m.a.now]
              obtain ⟨wn, hwn⟩ : ∃ wn, w3.alloc (.cells #[.string xn, .int .i64 m.a.type, .string ⟨#[]⟩, .int .i64 0, .int .i64 0, .int .i64 0, .slice none 0 0, .bool false, .int .i64 m.a.ttl, .int .i64 3, .int .i64 m.a.now] 69) = wn := ⟨_, rfl⟩
              obtain ⟨gn, hgn⟩ : ∃ gn, w3.heap.size = gn := ⟨_, rfl⟩
              rw [hwn] at xa bn
              rw [hgn] at bn
              have src : RdG wn 11 (some ⟨gn, 0, none⟩) 1 1 (cellsP (noneOf m.a.nm m.a.type m.a.ttl m.a.now)) := ⟨rfl, Nat.le_refl _, by simp [maxLen], fun _ => ⟨gn, 0, rfl, bn.lt, fun j u hj => by
                rw [Nat.zero_add, bn.cell]
                have e9 : (cellsP (noneOf m.a.nm m.a.type m.a.ttl m.a.now)).toArray = #[.string xn, .int .i64 m.a.type, .string ⟨#[]⟩, .int .i64 0, .int .i64 0, .int .i64 0, .slice none 0 0, .bool false, .int .i64 m.a.ttl, .int .i64 3, .int .i64 m.a.now] := by first | (rw [← HXN.out]; rfl) | (rw [← HXSN.out, ← HXL.out]; rfl)
                rw [← e9]
                simpa using hj⟩⟩
              have dst := PC3.out.o.ext xa
              have PCN := hid (PC3.out.ext xa)
              have SRC := hid src
              have DST := hid dst
              have HPN9 : Hid (∀ q ∈ P ++ [noneOf m.a.nm m.a.type m.a.ttl m.a.now], WfP q.p ∧ RdG w 1 q.A q.p.s.data.length q.d (tvs q.p.s.data)) := hid (fun q hq => by
                rcases List.mem_append.1 hq with hq | hq
                · exact HP.out q hq
                · rw [List.mem_singleton] at hq
                  subst hq
                  exact NEW.out)
              have hwz9 : w.heap.size ≤ wn.heap.size := PCN.out.x.size
              have hpl9 : P.length ≤ 100 := by omega
              have INV9 := hid (TI.out.1 rfl).1
              clear xa bn src dst
              go_wp2_with (at_builtin; go_must (refine wpList_append_g (ok := okP) rfl (.tmp 120) (.tmp 130) 67 rfl w.heap.size 69 i0 (.agg #[.string ⟨#[]⟩, .int .i64 0, .string ⟨#[]⟩, .int .i64 0, .int .i64 0, .int .i64 0, .slice none 0 0, .bool false, .int .i64 0, .int .i64 0, .int .i64 0]) 11 120 Try.underlying67 hi hz0 hz1 hz2 rfl (by decide) zeroP (fun _ h => h) rfl DST.out rfl SRC.out (okP_cells _) (by omega) (by unfold maxLen; omega) (by omega) ?_; intro A6 c6 w6 o6 g6 n6; have PC9 : Hid (PutC w w6 g most s' A6 c6 (P ++ [noneOf m.a.nm m.a.type m.a.ttl m.a.now])) := hid (PCN.out.app (by rw [List.length_append, ← cellsPM_app]; exact o6) g6 (fun q hq => by (rcases n6 with n6 | n6; (left; rw [← n6]; exact hq); (right; rw [n6] at hq; simp at hq; omega)))); have HP9 := HPN9; clear o6 g6 n6; have CL := c_len PC9.out.q; simp only [pt] at CL; obtain ⟨ln, hln⟩ : ∃ ln, s'.L.length = ln := ⟨_, rfl⟩; have hlm := PC9.out.q.1.2.2.1; rw [hln] at CL hlm; have CL := hid CL; have l1 : decide (most < (ln : Int)) = false := (by simpa using hlm); have l2 : decide ((ln : Int) < 0) = false := (by simp); have REL : TrRel w g most M (.slice A6 (P.length + 1) c6) (.int .i64 ((k : Int) + 1)) w6 := ⟨k + 1, A6, c6, s', P ++ [noneOf m.a.nm m.a.type m.a.ttl m.a.now], m.a.now, by omega, by go_num, by first | rfl | (rw [List.length_append]; done) | (rw [List.length_append]; rfl), by (try rw [List.length_append, List.length_singleton]); omega, PC9.out, HP9.out, INV9.out, fun _ => ⟨by rw [Nat.add_sub_cancel, HME.out], hin⟩, fun h => by omega⟩; have REL := hid REL; clear hln hlm))
              refine CL.out.mono ?_
              rintro e _ ⟨rfl, rfl⟩
              go_wp2_with fail
              refine CL.out.mono ?_
              rintro e _ ⟨rfl, rfl⟩
              go_wp2_with fail
              go_roundw
              case rel => exact REL.out
              case measure => simp [intOf]; omega
          · as_aux_lemma =>
              have CG := c_get_any (QZ.out.ext (ext_drew _)) (n := m.a.nm) (kind := m.a.type) (rank := m.a.rank) (at_ := m.a.now) (by omega) HWF.out.type
              have TO := told_of INV.out PC0.out.q.1 (a := m.a) hup hin
              obtain ⟨rs, hrs⟩ : ∃ rs, getG s m.a.nm m.a.type m.a.rank m.a.now = rs := ⟨_, rfl⟩
              rw [hrs] at CG TO
              obtain ⟨s', f⟩ := rs
              simp only at CG TO
              rw [HXN.out] at CG
              simp only [pt] at CG
              have CG := hid CG
              have TO := hid TO
              have KEEP : Hid (∀ W, Ext wz W → W.cell? ⟨gx, 0, none⟩ = some (.int .i64 m.a.kind) ∧ W.cell? ⟨gx, 1, none⟩ = some (.int .i64 m.a.now) ∧ W.cell? ⟨gx, 2, none⟩ = some (.int .i64 m.a.rank) ∧ W.cell? ⟨gx, 3, none⟩ = some (.int .i64 m.a.type) ∧ W.cell? ⟨gx, 4, none⟩ = some (.int .i64 m.a.ttl) ∧ W.cell? ⟨gx, 5, none⟩ = some (.string xn) ∧ W.cell? ⟨gx, 6, none⟩ = some (.string xsn) ∧ W.cell? ⟨gx, 7, none⟩ = some (.int .i64 m.a.s.ty) ∧ W.cell? ⟨gx, 8, none⟩ = some (.int .i64 m.a.s.cl) ∧ W.cell? ⟨gx, 9, none⟩ = some (.int .i64 m.a.s.ttl) ∧ W.cell? ⟨gx, 10, none⟩ = some (.slice m.A xl m.d)) := hid (fun W y => by
                have b := BZ.out.ext y
                exact ⟨b.cell 0, b.cell 1, b.cell 2, b.cell 3, b.cell 4, b.cell 5, b.cell 6, b.cell 7, b.cell 8, b.cell 9, b.cell 10⟩)
              clear hrs y0 y1 y2 y3 y4 y5 y6 y7 y8 y9 y10
              go_upto_region 25 with (fail)
              refine wp_region_noPanic ?_
              refine region_E (S := fun W => W.cell? ⟨gx, 0, none⟩ = some (.int .i64 m.a.kind) ∧ W.cell? ⟨gx, 1, none⟩ = some (.int .i64 m.a.now) ∧ W.cell? ⟨gx, 2, none⟩ = some (.int .i64 m.a.rank) ∧ W.cell? ⟨gx, 3, none⟩ = some (.int .i64 m.a.type) ∧ W.cell? ⟨gx, 4, none⟩ = some (.int .i64 m.a.ttl) ∧ W.cell? ⟨gx, 5, none⟩ = some (.string xn) ∧ W.cell? ⟨gx, 6, none⟩ = some (.string xsn) ∧ W.cell? ⟨gx, 7, none⟩ = some (.int .i64 m.a.s.ty) ∧ W.cell? ⟨gx, 8, none⟩ = some (.int .i64 m.a.s.cl) ∧ W.cell? ⟨gx, 9, none⟩ = some (.int .i64 m.a.s.ttl) ∧ W.cell? ⟨gx, 10, none⟩ = some (.slice m.A xl m.d)) 13 (by kernel_rfl) (by kernel_rfl) (by kernel_rfl) ?_
              refine EG_take 0 (v := ?v144) (by simp only [List.getElem?_toArray, List.getElem?_cons_succ, List.getElem?_cons_zero]; rfl) (by kernel_rfl) (by kernel_rfl) (by decide) (fun _ _ _ h => h) (Or.inl ⟨by rfl, ?hy144⟩) (KEEP.out _ (ext_drew _)) ?rest144
              case hy144 => intro W hSW; (try dsimp only at hSW); obtain ⟨e0, e1, e2, e3, e4, e5, e6, e7, e8, e9, e10⟩ := hSW; go_simp <;> with_reducible rfl
              try simp only [Act.put, List.setIfInBounds_toArray, List.set_cons_zero, List.set_cons_succ]
              refine EG_take 1 (v := ?v145) (by simp only [List.getElem?_toArray, List.getElem?_cons_succ, List.getElem?_cons_zero]; rfl) (by kernel_rfl) (by kernel_rfl) (by decide) (fun _ _ _ h => h) (Or.inl ⟨by rfl, ?hy145⟩) (KEEP.out _ (ext_drew _)) ?rest145
              case hy145 => intro W hSW; (try dsimp only at hSW); obtain ⟨e0, e1, e2, e3, e4, e5, e6, e7, e8, e9, e10⟩ := hSW; go_simp <;> with_reducible rfl
              try simp only [Act.put, List.setIfInBounds_toArray, List.set_cons_zero, List.set_cons_succ]
              refine EG_take 2 (v := ?v146) (by simp only [List.getElem?_toArray, List.getElem?_cons_succ, List.getElem?_cons_zero]; rfl) (by kernel_rfl) (by kernel_rfl) (by decide) (fun _ _ _ h => h) (Or.inl ⟨by rfl, ?hy146⟩) (KEEP.out _ (ext_drew _)) ?rest146
              case hy146 => intro W hSW; (try dsimp only at hSW); obtain ⟨e0, e1, e2, e3, e4, e5, e6, e7, e8, e9, e10⟩ := hSW; go_simp <;> with_reducible rfl
              try simp only [Act.put, List.setIfInBounds_toArray, List.set_cons_zero, List.set_cons_succ]
              refine EG_take 3 (v := ?v147) (by simp only [List.getElem?_toArray, List.getElem?_cons_succ, List.getElem?_cons_zero]; rfl) (by kernel_rfl) (by kernel_rfl) (by decide) (fun _ _ _ h => h) (Or.inl ⟨by rfl, ?hy147⟩) (KEEP.out _ (ext_drew _)) ?rest147
              case hy147 => intro W hSW; (try dsimp only at hSW); obtain ⟨e0, e1, e2, e3, e4, e5, e6, e7, e8, e9, e10⟩ := hSW; go_simp <;> with_reducible rfl
              try simp only [Act.put, List.setIfInBounds_toArray, List.set_cons_zero, List.set_cons_succ]
              refine EG_take 4 (v := ?v148) (by simp only [List.getElem?_toArray, List.getElem?_cons_succ, List.getElem?_cons_zero]; rfl) (by kernel_rfl) (by kernel_rfl) (by decide) (fun _ _ _ h => h) (Or.inl ⟨by rfl, ?hy148⟩) (KEEP.out _ (ext_drew _)) ?rest148
              case hy148 => intro W hSW; (try dsimp only at hSW); obtain ⟨e0, e1, e2, e3, e4, e5, e6, e7, e8, e9, e10⟩ := hSW; go_simp <;> with_reducible rfl
              try simp only [Act.put, List.setIfInBounds_toArray, List.set_cons_zero, List.set_cons_succ]
              refine EG_take 5 (v := ?v149) (by simp only [List.getElem?_toArray, List.getElem?_cons_succ, List.getElem?_cons_zero]; rfl) (by kernel_rfl) (by kernel_rfl) (by decide) (fun _ _ _ h => h) (Or.inl ⟨by rfl, ?hy149⟩) (KEEP.out _ (ext_drew _)) ?rest149
              case hy149 => intro W hSW; (try dsimp only at hSW); obtain ⟨e0, e1, e2, e3, e4, e5, e6, e7, e8, e9, e10⟩ := hSW; go_simp <;> with_reducible rfl
              try simp only [Act.put, List.setIfInBounds_toArray, List.set_cons_zero, List.set_cons_succ]
              refine EG_take 6 (v := ?v150) (by simp only [List.getElem?_toArray, List.getElem?_cons_succ, List.getElem?_cons_zero]; rfl) (by kernel_rfl) (by kernel_rfl) (by decide) (fun _ _ _ h => h) (Or.inl ⟨by rfl, ?hy150⟩) (KEEP.out _ (ext_drew _)) ?rest150
              case hy150 => intro W hSW; (try dsimp only at hSW); obtain ⟨e0, e1, e2, e3, e4, e5, e6, e7, e8, e9, e10⟩ := hSW; go_simp <;> with_reducible rfl
              try simp only [Act.put, List.setIfInBounds_toArray, List.set_cons_zero, List.set_cons_succ]
              refine EG_take 7 (v := ?v151) (by simp only [List.getElem?_toArray, List.getElem?_cons_succ, List.getElem?_cons_zero]; rfl) (by kernel_rfl) (by kernel_rfl) (by decide) (fun _ _ _ h => h) (Or.inl ⟨by rfl, ?hy151⟩) (KEEP.out _ (ext_drew _)) ?rest151
              case hy151 => intro W hSW; (try dsimp only at hSW); obtain ⟨e0, e1, e2, e3, e4, e5, e6, e7, e8, e9, e10⟩ := hSW; go_simp <;> with_reducible rfl
              try simp only [Act.put, List.setIfInBounds_toArray, List.set_cons_zero, List.set_cons_succ]
              refine EG_take 8 (v := ?v152) (by simp only [List.getElem?_toArray, List.getElem?_cons_succ, List.getElem?_cons_zero]; rfl) (by kernel_rfl) (by kernel_rfl) (by decide) (fun _ _ _ h => h) (Or.inl ⟨by rfl, ?hy152⟩) (KEEP.out _ (ext_drew _)) ?rest152
              case hy152 => intro W hSW; (try dsimp only at hSW); obtain ⟨e0, e1, e2, e3, e4, e5, e6, e7, e8, e9, e10⟩ := hSW; go_simp <;> with_reducible rfl
              try simp only [Act.put, List.setIfInBounds_toArray, List.set_cons_zero, List.set_cons_succ]
              refine EG_take 10 (v := ?v153) (by simp only [List.getElem?_toArray, List.getElem?_cons_succ, List.getElem?_cons_zero]; rfl) (by kernel_rfl) (by kernel_rfl) (by decide) (fun _ _ _ h => h) (Or.inl ⟨by rfl, ?hy153⟩) (KEEP.out _ (ext_drew _)) ?rest153
              case hy153 => intro W hSW; (try dsimp only at hSW); obtain ⟨e0, e1, e2, e3, e4, e5, e6, e7, e8, e9, e10⟩ := hSW; go_simp <;> with_reducible rfl
              try simp only [Act.put, List.setIfInBounds_toArray, List.set_cons_zero, List.set_cons_succ]
              refine EG_take 11 (v := ?v154) (by simp only [List.getElem?_toArray, List.getElem?_cons_succ, List.getElem?_cons_zero]; rfl) (by kernel_rfl) (by kernel_rfl) (by decide) (fun _ _ _ h => h) (Or.inl ⟨by rfl, ?hy154⟩) (KEEP.out _ (ext_drew _)) ?rest154
              case hy154 => intro W hSW; (try dsimp only at hSW); obtain ⟨e0, e1, e2, e3, e4, e5, e6, e7, e8, e9, e10⟩ := hSW; go_simp <;> with_reducible rfl
              try simp only [Act.put, List.setIfInBounds_toArray, List.set_cons_zero, List.set_cons_succ]
              refine EG_one 9 (by kernel_rfl) (by simp only [List.getElem?_toArray, List.getElem?_cons_succ, List.getElem?_cons_zero]; rfl) (by decide) ?_
              intro K hK0
              have hK := hid hK0
              clear hK0
              go_simp
              refine (CG.out).mono ?_
              rintro e w3 ⟨A3, c3, rfl, o3, q3, s3⟩
              have PC3 := hid (PutC.step PC0.out (ext_trans EZ.out (ext_drew _)) (qc_more q3 s3.size) s3)
              have b3 := (BZ.out.ext (ext_drew _)).shy s3 HGU.out
              have S3 : Hid (w3.cell? ⟨gx, 0, none⟩ = some (.int .i64 m.a.kind) ∧ w3.cell? ⟨gx, 1, none⟩ = some (.int .i64 m.a.now) ∧ w3.cell? ⟨gx, 2, none⟩ = some (.int .i64 m.a.rank) ∧ w3.cell? ⟨gx, 3, none⟩ = some (.int .i64 m.a.type) ∧ w3.cell? ⟨gx, 4, none⟩ = some (.int .i64 m.a.ttl) ∧ w3.cell? ⟨gx, 5, none⟩ = some (.string xn) ∧ w3.cell? ⟨gx, 6, none⟩ = some (.string xsn) ∧ w3.cell? ⟨gx, 7, none⟩ = some (.int .i64 m.a.s.ty) ∧ w3.cell? ⟨gx, 8, none⟩ = some (.int .i64 m.a.s.cl) ∧ w3.cell? ⟨gx, 9, none⟩ = some (.int .i64 m.a.s.ttl) ∧ w3.cell? ⟨gx, 10, none⟩ = some (.slice m.A xl m.d)) := hid ⟨b3.cell 0, b3.cell 1, b3.cell 2, b3.cell 3, b3.cell 4, b3.cell 5, b3.cell 6, b3.cell 7, b3.cell 8, b3.cell 9, b3.cell 10⟩
              have KEEP3 : Hid (∀ W, Ext w3 W → W.cell? ⟨gx, 0, none⟩ = some (.int .i64 m.a.kind) ∧ W.cell? ⟨gx, 1, none⟩ = some (.int .i64 m.a.now) ∧ W.cell? ⟨gx, 2, none⟩ = some (.int .i64 m.a.rank) ∧ W.cell? ⟨gx, 3, none⟩ = some (.int .i64 m.a.type) ∧ W.cell? ⟨gx, 4, none⟩ = some (.int .i64 m.a.ttl) ∧ W.cell? ⟨gx, 5, none⟩ = some (.string xn) ∧ W.cell? ⟨gx, 6, none⟩ = some (.string xsn) ∧ W.cell? ⟨gx, 7, none⟩ = some (.int .i64 m.a.s.ty) ∧ W.cell? ⟨gx, 8, none⟩ = some (.int .i64 m.a.s.cl) ∧ W.cell? ⟨gx, 9, none⟩ = some (.int .i64 m.a.s.ttl) ∧ W.cell? ⟨gx, 10, none⟩ = some (.slice m.A xl m.d)) := hid (fun W y => by
                have b := b3.ext y
                exact ⟨b.cell 0, b.cell 1, b.cell 2, b.cell 3, b.cell 4, b.cell 5, b.cell 6, b.cell 7, b.cell 8, b.cell 9, b.cell 10⟩)
              have CT : Hid (Calls Try.prog 30 #[foundV f A3 c3, .slice A1 P.length c1, .agg #[.int .i64 m.a.kind, .int .i64 m.a.now, .int .i64 m.a.rank, .int .i64 m.a.type, .int .i64 m.a.ttl, .string xn, .string xsn, .int .i64 m.a.s.ty, .int .i64 m.a.s.cl, .int .i64 m.a.s.ttl, .slice m.A xl m.d]] w3 fun e w' => e = .returned (.bool true) ∧ Ext w3 w') := hid (by
                have ec : (cellsA m).toArray = #[.int .i64 m.a.kind, .int .i64 m.a.now, .int .i64 m.a.rank, .int .i64 m.a.type, .int .i64 m.a.ttl, .string xn, .string xsn, .int .i64 m.a.s.ty, .int .i64 m.a.s.cl, .int .i64 m.a.s.ttl, .slice m.A xl m.d] := by unfold cellsA; rw [HXN.out, HXSN.out, HXL.out]
                rw [← ec]
                rcases TO.out.2 with h0 | ⟨h0, h2⟩
                · exact told_none h0
                · exact told_in o3.rd (putsR_of PC3.out HP.out (ext_refl _)) HWF.out (by omega) hin h0 h2)
              clear o3 q3 s3 b3 CG
              unfold foundV at CT ⊢
              go_simp
              refine hK.out _ _ (KEEP3.out _ (ext_refl _)) ?_
              clear hK K
              try simp only [Act.put, List.setIfInBounds_toArray, List.set_cons_zero, List.set_cons_succ]
              refine EG_one 12 (by kernel_rfl) (by simp only [List.getElem?_toArray, List.getElem?_cons_succ, List.getElem?_cons_zero]; rfl) (by decide) ?_
              intro K hK0
              have hK := hid hK0
              clear hK0
              go_simp
              refine CT.out.mono ?_
              rintro e w5 ⟨rfl, x5⟩
              have PC9 := hid (PC3.out.ext x5)
              have X5 := hid x5
              clear x5 CT
              go_simp
              refine hK.out _ _ (KEEP3.out _ X5.out) ?_
              clear hK K
              try simp only [Act.put, List.setIfInBounds_toArray, List.set_cons_zero, List.set_cons_succ]
              refine EG_end (by kernel_rfl) (by simp only [List.getElem?_toArray, List.getElem?_cons_succ, List.getElem?_cons_zero]; rfl) ?_
              intro K hK0
              have hK := hid hK0
              clear hK0
              go_simp
              refine hK.out _ _ ?_
              clear hK K
              refine NoPanic.normal ?_
              have INV9 := hid TO.out.1
              have HP9 := HP
              have CL := c_len PC9.out.q
              simp only [pt] at CL
              obtain ⟨ln, hln⟩ : ∃ ln, s'.L.length = ln := ⟨_, rfl⟩
              have hlm := PC9.out.q.1.2.2.1
              rw [hln] at CL hlm
              have CL := hid CL
              have l1 : decide (most < (ln : Int)) = false := (by simpa using hlm)
              have l2 : decide ((ln : Int) < 0) = false := (by simp)
              have REL : TrRel w g most M (.slice A1 P.length c1) (.int .i64 ((k : Int) + 1)) w5 := ⟨k + 1, A1, c1, s', P, m.a.now, by omega, by go_num, by first | rfl | (rw [List.length_append]; done) | (rw [List.length_append]; rfl), by (try rw [List.length_append, List.length_singleton]); omega, PC9.out, HP9.out, INV9.out, fun _ => ⟨by rw [Nat.add_sub_cancel, HME.out], hin⟩, fun h => by omega⟩
              have REL := hid REL
              clear hln hlm
              clear KEEP KEEP3
              go_wp2_with fail
              refine CL.out.mono ?_
              rintro e _ ⟨rfl, rfl⟩
              go_wp2_with fail
              refine CL.out.mono ?_
              rintro e _ ⟨rfl, rfl⟩
              go_wp2_with fail
              go_roundw
              case rel => exact REL.out
              case measure => simp [intOf]; omega
          · as_aux_lemma =>
              have CG := c_get_any (QZ.out.ext (ext_drew _)) (n := m.a.nm) (kind := m.a.type) (rank := m.a.rank) (at_ := m.a.now) (by omega) HWF.out.type
              have TO := told_of INV.out PC0.out.q.1 (a := m.a) hup hin
              obtain ⟨rs, hrs⟩ : ∃ rs, getG s m.a.nm m.a.type m.a.rank m.a.now = rs := ⟨_, rfl⟩
              rw [hrs] at CG TO
              obtain ⟨s', f⟩ := rs
              simp only at CG TO
              rw [HXN.out] at CG
              simp only [pt] at CG
              have CG := hid CG
              have TO := hid TO
              have KEEP : Hid (∀ W, Ext wz W → W.cell? ⟨gx, 0, none⟩ = some (.int .i64 m.a.kind) ∧ W.cell? ⟨gx, 1, none⟩ = some (.int .i64 m.a.now) ∧ W.cell? ⟨gx, 2, none⟩ = some (.int .i64 m.a.rank) ∧ W.cell? ⟨gx, 3, none⟩ = some (.int .i64 m.a.type) ∧ W.cell? ⟨gx, 4, none⟩ = some (.int .i64 m.a.ttl) ∧ W.cell? ⟨gx, 5, none⟩ = some (.string xn) ∧ W.cell? ⟨gx, 6, none⟩ = some (.string xsn) ∧ W.cell? ⟨gx, 7, none⟩ = some (.int .i64 m.a.s.ty) ∧ W.cell? ⟨gx, 8, none⟩ = some (.int .i64 m.a.s.cl) ∧ W.cell? ⟨gx, 9, none⟩ = some (.int .i64 m.a.s.ttl) ∧ W.cell? ⟨gx, 10, none⟩ = some (.slice m.A xl m.d)) := hid (fun W y => by
                have b := BZ.out.ext y
                exact ⟨b.cell 0, b.cell 1, b.cell 2, b.cell 3, b.cell 4, b.cell 5, b.cell 6, b.cell 7, b.cell 8, b.cell 9, b.cell 10⟩)
              clear hrs y0 y1 y2 y3 y4 y5 y6 y7 y8 y9 y10
              go_upto_region 25 with (fail)
              refine wp_region_noPanic ?_
              refine region_E (S := fun W => W.cell? ⟨gx, 0, none⟩ = some (.int .i64 m.a.kind) ∧ W.cell? ⟨gx, 1, none⟩ = some (.int .i64 m.a.now) ∧ W.cell? ⟨gx, 2, none⟩ = some (.int .i64 m.a.rank) ∧ W.cell? ⟨gx, 3, none⟩ = some (.int .i64 m.a.type) ∧ W.cell? ⟨gx, 4, none⟩ = some (.int .i64 m.a.ttl) ∧ W.cell? ⟨gx, 5, none⟩ = some (.string xn) ∧ W.cell? ⟨gx, 6, none⟩ = some (.string xsn) ∧ W.cell? ⟨gx, 7, none⟩ = some (.int .i64 m.a.s.ty) ∧ W.cell? ⟨gx, 8, none⟩ = some (.int .i64 m.a.s.cl) ∧ W.cell? ⟨gx, 9, none⟩ = some (.int .i64 m.a.s.ttl) ∧ W.cell? ⟨gx, 10, none⟩ = some (.slice m.A xl m.d)) 13 (by kernel_rfl) (by kernel_rfl) (by kernel_rfl) ?_
              refine EG_take 0 (v := ?v155) (by simp only [List.getElem?_toArray, List.getElem?_cons_succ, List.getElem?_cons_zero]; rfl) (by kernel_rfl) (by kernel_rfl) (by decide) (fun _ _ _ h => h) (Or.inl ⟨by rfl, ?hy155⟩) (KEEP.out _ (ext_drew _)) ?rest155
              case hy155 => intro W hSW; (try dsimp only at hSW); obtain ⟨e0, e1, e2, e3, e4, e5, e6, e7, e8, e9, e10⟩ := hSW; go_simp <;> with_reducible rfl
              try simp only [Act.put, List.setIfInBounds_toArray, List.set_cons_zero, List.set_cons_succ]
              refine EG_take 1 (v := ?v156) (by simp only [List.getElem?_toArray, List.getElem?_cons_succ, List.getElem?_cons_zero]; rfl) (by kernel_rfl) (by kernel_rfl) (by decide) (fun _ _ _ h => h) (Or.inl ⟨by rfl, ?hy156⟩) (KEEP.out _ (ext_drew _)) ?rest156
              case hy156 => intro W hSW; (try dsimp only at hSW); obtain ⟨e0, e1, e2, e3, e4, e5, e6, e7, e8, e9, e10⟩ := hSW; go_simp <;> with_reducible rfl
              try simp only [Act.put, List.setIfInBounds_toArray, List.set_cons_zero, List.set_cons_succ]
              refine EG_take 2 (v := ?v157) (by simp only [List.getElem?_toArray, List.getElem?_cons_succ, List.getElem?_cons_zero]; rfl) (by kernel_rfl) (by kernel_rfl) (by decide) (fun _ _ _ h => h) (Or.inl ⟨by rfl, ?hy157⟩) (KEEP.out _ (ext_drew _)) ?rest157
              case hy157 => intro W hSW; (try dsimp only at hSW); obtain ⟨e0, e1, e2, e3, e4, e5, e6, e7, e8, e9, e10⟩ := hSW; go_simp <;> with_reducible rfl
              try simp only [Act.put, List.setIfInBounds_toArray, List.set_cons_zero, List.set_cons_succ]
              refine EG_take 3 (v := ?v158) (by simp only [List.getElem?_toArray, List.getElem?_cons_succ, List.getElem?_cons_zero]; rfl) (by kernel_rfl) (by kernel_rfl) (by decide) (fun _ _ _ h => h) (Or.inl ⟨by rfl, ?hy158⟩) (KEEP.out _ (ext_drew _)) ?rest158
              case hy158 => intro W hSW; (try dsimp only at hSW); obtain ⟨e0, e1, e2, e3, e4, e5, e6, e7, e8, e9, e10⟩ := hSW; go_simp <;> with_reducible rfl
              try simp only [Act.put, List.setIfInBounds_toArray, List.set_cons_zero, List.set_cons_succ]
              refine EG_take 4 (v := ?v159) (by simp only [List.getElem?_toArray, List.getElem?_cons_succ, List.getElem?_cons_zero]; rfl) (by kernel_rfl) (by kernel_rfl) (by decide) (fun _ _ _ h => h) (Or.inl ⟨by rfl, ?hy159⟩) (KEEP.out _ (ext_drew _)) ?rest159
              case hy159 => intro W hSW; (try dsimp only at hSW); obtain ⟨e0, e1, e2, e3, e4, e5, e6, e7, e8, e9, e10⟩ := hSW; go_simp <;> with_reducible rfl
              try simp only [Act.put, List.setIfInBounds_toArray, List.set_cons_zero, List.set_cons_succ]
              refine EG_take 5 (v := ?v160) (by simp only [List.getElem?_toArray, List.getElem?_cons_succ, List.getElem?_cons_zero]; rfl) (by kernel_rfl) (by kernel_rfl) (by decide) (fun _ _ _ h => h) (Or.inl ⟨by rfl, ?hy160⟩) (KEEP.out _ (ext_drew _)) ?rest160
              case hy160 => intro W hSW; (try dsimp only at hSW); obtain ⟨e0, e1, e2, e3, e4, e5, e6, e7, e8, e9, e10⟩ := hSW; go_simp <;> with_reducible rfl
              try simp only [Act.put, List.setIfInBounds_toArray, List.set_cons_zero, List.set_cons_succ]
              refine EG_take 6 (v := ?v161) (by simp only [List.getElem?_toArray, List.getElem?_cons_succ, List.getElem?_cons_zero]; rfl) (by kernel_rfl) (by kernel_rfl) (by decide) (fun _ _ _ h => h) (Or.inl ⟨by rfl, ?hy161⟩) (KEEP.out _ (ext_drew _)) ?rest161
              case hy161 => intro W hSW; (try dsimp only at hSW); obtain ⟨e0, e1, e2, e3, e4, e5, e6, e7, e8, e9, e10⟩ := hSW; go_simp <;> with_reducible rfl
              try simp only [Act.put, List.setIfInBounds_toArray, List.set_cons_zero, List.set_cons_succ]
              refine EG_take 7 (v := ?v162) (by simp only [List.getElem?_toArray, List.getElem?_cons_succ, List.getElem?_cons_zero]; rfl) (by kernel_rfl) (by kernel_rfl) (by decide) (fun _ _ _ h => h) (Or.inl ⟨by rfl, ?hy162⟩) (KEEP.out _ (ext_drew _)) ?rest162
              case hy162 => intro W hSW; (try dsimp only at hSW); obtain ⟨e0, e1, e2, e3, e4, e5, e6, e7, e8, e9, e10⟩ := hSW; go_simp <;> with_reducible rfl
              try simp only [Act.put, List.setIfInBounds_toArray, List.set_cons_zero, List.set_cons_succ]
              refine EG_take 8 (v := ?v163) (by simp only [List.getElem?_toArray, List.getElem?_cons_succ, List.getElem?_cons_zero]; rfl) (by kernel_rfl) (by kernel_rfl) (by decide) (fun _ _ _ h => h) (Or.inl ⟨by rfl, ?hy163⟩) (KEEP.out _ (ext_drew _)) ?rest163
              case hy163 => intro W hSW; (try dsimp only at hSW); obtain ⟨e0, e1, e2, e3, e4, e5, e6, e7, e8, e9, e10⟩ := hSW; go_simp <;> with_reducible rfl
              try simp only [Act.put, List.setIfInBounds_toArray, List.set_cons_zero, List.set_cons_succ]
              refine EG_take 10 (v := ?v164) (by simp only [List.getElem?_toArray, List.getElem?_cons_succ, List.getElem?_cons_zero]; rfl) (by kernel_rfl) (by kernel_rfl) (by decide) (fun _ _ _ h => h) (Or.inl ⟨by rfl, ?hy164⟩) (KEEP.out _ (ext_drew _)) ?rest164
              case hy164 => intro W hSW; (try dsimp only at hSW); obtain ⟨e0, e1, e2, e3, e4, e5, e6, e7, e8, e9, e10⟩ := hSW; go_simp <;> with_reducible rfl
              try simp only [Act.put, List.setIfInBounds_toArray, List.set_cons_zero, List.set_cons_succ]
              refine EG_take 11 (v := ?v165) (by simp only [List.getElem?_toArray, List.getElem?_cons_succ, List.getElem?_cons_zero]; rfl) (by kernel_rfl) (by kernel_rfl) (by decide) (fun _ _ _ h => h) (Or.inl ⟨by rfl, ?hy165⟩) (KEEP.out _ (ext_drew _)) ?rest165
              case hy165 => intro W hSW; (try dsimp only at hSW); obtain ⟨e0, e1, e2, e3, e4, e5, e6, e7, e8, e9, e10⟩ := hSW; go_simp <;> with_reducible rfl
              try simp only [Act.put, List.setIfInBounds_toArray, List.set_cons_zero, List.set_cons_succ]
              refine EG_one 9 (by kernel_rfl) (by simp only [List.getElem?_toArray, List.getElem?_cons_succ, List.getElem?_cons_zero]; rfl) (by decide) ?_
              intro K hK0
              have hK := hid hK0
              clear hK0
              go_simp
              refine (CG.out).mono ?_
              rintro e w3 ⟨A3, c3, rfl, o3, q3, s3⟩
              have PC3 := hid (PutC.step PC0.out (ext_trans EZ.out (ext_drew _)) (qc_more q3 s3.size) s3)
              have b3 := (BZ.out.ext (ext_drew _)).shy s3 HGU.out
              have S3 : Hid (w3.cell? ⟨gx, 0, none⟩ = some (.int .i64 m.a.kind) ∧ w3.cell? ⟨gx, 1, none⟩ = some (.int .i64 m.a.now) ∧ w3.cell? ⟨gx, 2, none⟩ = some (.int .i64 m.a.rank) ∧ w3.cell? ⟨gx, 3, none⟩ = some (.int .i64 m.a.type) ∧ w3.cell? ⟨gx, 4, none⟩ = some (.int .i64 m.a.ttl) ∧ w3.cell? ⟨gx, 5, none⟩ = some (.string xn) ∧ w3.cell? ⟨gx, 6, none⟩ = some (.string xsn) ∧ w3.cell? ⟨gx, 7, none⟩ = some (.int .i64 m.a.s.ty) ∧ w3.cell? ⟨gx, 8, none⟩ = some (.int .i64 m.a.s.cl) ∧ w3.cell? ⟨gx, 9, none⟩ = some (.int .i64 m.a.s.ttl) ∧ w3.cell? ⟨gx, 10, none⟩ = some (.slice m.A xl m.d)) := hid ⟨b3.cell 0, b3.cell 1, b3.cell 2, b3.cell 3, b3.cell 4, b3.cell 5, b3.cell 6, b3.cell 7, b3.cell 8, b3.cell 9, b3.cell 10⟩
              have KEEP3 : Hid (∀ W, Ext w3 W → W.cell? ⟨gx, 0, none⟩ = some (.int .i64 m.a.kind) ∧ W.cell? ⟨gx, 1, none⟩ = some (.int .i64 m.a.now) ∧ W.cell? ⟨gx, 2, none⟩ = some (.int .i64 m.a.rank) ∧ W.cell? ⟨gx, 3, none⟩ = some (.int .i64 m.a.type) ∧ W.cell? ⟨gx, 4, none⟩ = some (.int .i64 m.a.ttl) ∧ W.cell? ⟨gx, 5, none⟩ = some (.string xn) ∧ W.cell? ⟨gx, 6, none⟩ = some (.string xsn) ∧ W.cell? ⟨gx, 7, none⟩ = some (.int .i64 m.a.s.ty) ∧ W.cell? ⟨gx, 8, none⟩ = some (.int .i64 m.a.s.cl) ∧ W.cell? ⟨gx, 9, none⟩ = some (.int .i64 m.a.s.ttl) ∧ W.cell? ⟨gx, 10, none⟩ = some (.slice m.A xl m.d)) := hid (fun W y => by
                have b := b3.ext y
                exact ⟨b.cell 0, b.cell 1, b.cell 2, b.cell 3, b.cell 4, b.cell 5, b.cell 6, b.cell 7, b.cell 8, b.cell 9, b.cell 10⟩)
              have CT : Hid (Calls Try.prog 30 #[foundV f A3 c3, .slice A1 P.length c1, .agg #[.int .i64 m.a.kind, .int .i64 m.a.now, .int .i64 m.a.rank, .int .i64 m.a.type, .int .i64 m.a.ttl, .string xn, .string xsn, .int .i64 m.a.s.ty, .int .i64 m.a.s.cl, .int .i64 m.a.s.ttl, .slice m.A xl m.d]] w3 fun e w' => e = .returned (.bool true) ∧ Ext w3 w') := hid (by
                have ec : (cellsA m).toArray = #[.int .i64 m.a.kind, .int .i64 m.a.now, .int .i64 m.a.rank, .int .i64 m.a.type, .int .i64 m.a.ttl, .string xn, .string xsn, .int .i64 m.a.s.ty, .int .i64 m.a.s.cl, .int .i64 m.a.s.ttl, .slice m.A xl m.d] := by unfold cellsA; rw [HXN.out, HXSN.out, HXL.out]
                rw [← ec]
                rcases TO.out.2 with h0 | ⟨h0, h2⟩
                · exact told_none h0
                · exact told_in o3.rd (putsR_of PC3.out HP.out (ext_refl _)) HWF.out (by omega) hin h0 h2)
              clear o3 q3 s3 b3 CG
              unfold foundV at CT ⊢
              go_simp
              refine hK.out _ _ (KEEP3.out _ (ext_refl _)) ?_
              clear hK K
              try simp only [Act.put, List.setIfInBounds_toArray, List.set_cons_zero, List.set_cons_succ]
              refine EG_one 12 (by kernel_rfl) (by simp only [List.getElem?_toArray, List.getElem?_cons_succ, List.getElem?_cons_zero]; rfl) (by decide) ?_
              intro K hK0
              have hK := hid hK0
              clear hK0
              go_simp
              refine CT.out.mono ?_
              rintro e w5 ⟨rfl, x5⟩
              have PC9 := hid (PC3.out.ext x5)
              have X5 := hid x5
              clear x5 CT
              go_simp
              refine hK.out _ _ (KEEP3.out _ X5.out) ?_
              clear hK K
              try simp only [Act.put, List.setIfInBounds_toArray, List.set_cons_zero, List.set_cons_succ]
              refine EG_end (by kernel_rfl) (by simp only [List.getElem?_toArray, List.getElem?_cons_succ, List.getElem?_cons_zero]; rfl) ?_
              intro K hK0
              have hK := hid hK0
              clear hK0
              go_simp
              refine hK.out _ _ ?_
              clear hK K
              refine NoPanic.normal ?_
              have INV9 := hid TO.out.1
              have HP9 := HP
              have CL := c_len PC9.out.q
              simp only [pt] at CL
              obtain ⟨ln, hln⟩ : ∃ ln, s'.L.length = ln := ⟨_, rfl⟩
              have hlm := PC9.out.q.1.2.2.1
              rw [hln] at CL hlm
              have CL := hid CL
              have l1 : decide (most < (ln : Int)) = false := (by simpa using hlm)
              have l2 : decide ((ln : Int) < 0) = false := (by simp)
              have REL : TrRel w g most M (.slice A1 P.length c1) (.int .i64 ((k : Int) + 1)) w5 := ⟨k + 1, A1, c1, s', P, m.a.now, by omega, by go_num, by first | rfl | (rw [List.length_append]; done) | (rw [List.length_append]; rfl), by (try rw [List.length_append, List.length_singleton]); omega, PC9.out, HP9.out, INV9.out, fun _ => ⟨by rw [Nat.add_sub_cancel, HME.out], hin⟩, fun h => by omega⟩
              have REL := hid REL
              clear hln hlm
              clear KEEP KEEP3
              go_wp2_with fail
              refine CL.out.mono ?_
              rintro e _ ⟨rfl, rfl⟩
              go_wp2_with fail
              refine CL.out.mono ?_
              rintro e _ ⟨rfl, rfl⟩
              go_wp2_with fail
              go_roundw
              case rel => exact REL.out
              case measure => simp [intOf]; omega
          · as_aux_lemma =>
              have CG := c_get_any (QZ.out.ext (ext_drew _)) (n := m.a.nm) (kind := m.a.type) (rank := m.a.rank) (at_ := m.a.now) (by omega) HWF.out.type
              have TO := told_of INV.out PC0.out.q.1 (a := m.a) hup hin
              obtain ⟨rs, hrs⟩ : ∃ rs, getG s m.a.nm m.a.type m.a.rank m.a.now = rs := ⟨_, rfl⟩
              rw [hrs] at CG TO
              obtain ⟨s', f⟩ := rs
              simp only at CG TO
              rw [HXN.out] at CG
              simp only [pt] at CG
              have CG := hid CG
              have TO := hid TO
              have KEEP : Hid (∀ W, Ext wz W → W.cell? ⟨gx, 0, none⟩ = some (.int .i64 m.a.kind) ∧ W.cell? ⟨gx, 1, none⟩ = some (.int .i64 m.a.now) ∧ W.cell? ⟨gx, 2, none⟩ = some (.int .i64 m.a.rank) ∧ W.cell? ⟨gx, 3, none⟩ = some (.int .i64 m.a.type) ∧ W.cell? ⟨gx, 4, none⟩ = some (.int .i64 m.a.ttl) ∧ W.cell? ⟨gx, 5, none⟩ = some (.string xn) ∧ W.cell? ⟨gx, 6, none⟩ = some (.string xsn) ∧ W.cell? ⟨gx, 7, none⟩ = some (.int .i64 m.a.s.ty) ∧ W.cell? ⟨gx, 8, none⟩ = some (.int .i64 m.a.s.cl) ∧ W.cell? ⟨gx, 9, none⟩ = some (.int .i64 m.a.s.ttl) ∧ W.cell? ⟨gx, 10, none⟩ = some (.slice m.A xl m.d)) := hid (fun W y => by
                have b := BZ.out.ext y
                exact ⟨b.cell 0, b.cell 1, b.cell 2, b.cell 3, b.cell 4, b.cell 5, b.cell 6, b.cell 7, b.cell 8, b.cell 9, b.cell 10⟩)
              clear hrs y0 y1 y2 y3 y4 y5 y6 y7 y8 y9 y10
              go_upto_region 25 with (fail)
              refine wp_region_noPanic ?_
              refine region_E (S := fun W => W.cell? ⟨gx, 0, none⟩ = some (.int .i64 m.a.kind) ∧ W.cell? ⟨gx, 1, none⟩ = some (.int .i64 m.a.now) ∧ W.cell? ⟨gx, 2, none⟩ = some (.int .i64 m.a.rank) ∧ W.cell? ⟨gx, 3, none⟩ = some (.int .i64 m.a.type) ∧ W.cell? ⟨gx, 4, none⟩ = some (.int .i64 m.a.ttl) ∧ W.cell? ⟨gx, 5, none⟩ = some (.string xn) ∧ W.cell? ⟨gx, 6, none⟩ = some (.string xsn) ∧ W.cell? ⟨gx, 7, none⟩ = some (.int .i64 m.a.s.ty) ∧ W.cell? ⟨gx, 8, none⟩ = some (.int .i64 m.a.s.cl) ∧ W.cell? ⟨gx, 9, none⟩ = some (.int .i64 m.a.s.ttl) ∧ W.cell? ⟨gx, 10, none⟩ = some (.slice m.A xl m.d)) 13 (by kernel_rfl) (by kernel_rfl) (by kernel_rfl) ?_
              refine EG_take 0 (v := ?v166) (by simp only [List.getElem?_toArray, List.getElem?_cons_succ, List.getElem?_cons_zero]; rfl) (by kernel_rfl) (by kernel_rfl) (by decide) (fun _ _ _ h => h) (Or.inl ⟨by rfl, ?hy166⟩) (KEEP.out _ (ext_drew _)) ?rest166
              case hy166 => intro W hSW; (try dsimp only at hSW); obtain ⟨e0, e1, e2, e3, e4, e5, e6, e7, e8, e9, e10⟩ := hSW; go_simp <;> with_reducible rfl
              try simp only [Act.put, List.setIfInBounds_toArray, List.set_cons_zero, List.set_cons_succ]
              refine EG_take 1 (v := ?v167) (by simp only [List.getElem?_toArray, List.getElem?_cons_succ, List.getElem?_cons_zero]; rfl) (by kernel_rfl) (by kernel_rfl) (by decide) (fun _ _ _ h => h) (Or.inl ⟨by rfl, ?hy167⟩) (KEEP.out _ (ext_drew _)) ?rest167
              case hy167 => intro W hSW; (try dsimp only at hSW); obtain ⟨e0, e1, e2, e3, e4, e5, e6, e7, e8, e9, e10⟩ := hSW; go_simp <;> with_reducible rfl
              try simp only [Act.put, List.setIfInBounds_toArray, List.set_cons_zero, List.set_cons_succ]
              refine EG_take 2 (v := ?v168) (by simp only [List.getElem?_toArray, List.getElem?_cons_succ, List.getElem?_cons_zero]; rfl) (by kernel_rfl) (by kernel_rfl) (by decide) (fun _ _ _ h => h) (Or.inl ⟨by rfl, ?hy168⟩) (KEEP.out _ (ext_drew _)) ?rest168
              case hy168 => intro W hSW; (try dsimp only at hSW); obtain ⟨e0, e1, e2, e3, e4, e5, e6, e7, e8, e9, e10⟩ := hSW; go_simp <;> with_reducible rfl
              try simp only [Act.put, List.setIfInBounds_toArray, List.set_cons_zero, List.set_cons_succ]
              refine EG_take 3 (v := ?v169) (by simp only [List.getElem?_toArray, List.getElem?_cons_succ, List.getElem?_cons_zero]; rfl) (by kernel_rfl) (by kernel_rfl) (by decide) (fun _ _ _ h => h) (Or.inl ⟨by rfl, ?hy169⟩) (KEEP.out _ (ext_drew _)) ?rest169
              case hy169 => intro W hSW; (try dsimp only at hSW); obtain ⟨e0, e1, e2, e3, e4, e5, e6, e7, e8, e9, e10⟩ := hSW; go_simp <;> with_reducible rfl
              try simp only [Act.put, List.setIfInBounds_toArray, List.set_cons_zero, List.set_cons_succ]
              refine EG_take 4 (v := ?v170) (by simp only [List.getElem?_toArray, List.getElem?_cons_succ, List.getElem?_cons_zero]; rfl) (by kernel_rfl) (by kernel_rfl) (by decide) (fun _ _ _ h => h) (Or.inl ⟨by rfl, ?hy170⟩) (KEEP.out _ (ext_drew _)) ?rest170
              case hy170 => intro W hSW; (try dsimp only at hSW); obtain ⟨e0, e1, e2, e3, e4, e5, e6, e7, e8, e9, e10⟩ := hSW; go_simp <;> with_reducible rfl
              try simp only [Act.put, List.setIfInBounds_toArray, List.set_cons_zero, List.set_cons_succ]
              refine EG_take 5 (v := ?v171) (by simp only [List.getElem?_toArray, List.getElem?_cons_succ, List.getElem?_cons_zero]; rfl) (by kernel_rfl) (by kernel_rfl) (by decide) (fun _ _ _ h => h) (Or.inl ⟨by rfl, ?hy171⟩) (KEEP.out _ (ext_drew _)) ?rest171
              case hy171 => intro W hSW; (try dsimp only at hSW); obtain ⟨e0, e1, e2, e3, e4, e5, e6, e7, e8, e9, e10⟩ := hSW; go_simp <;> with_reducible rfl
              try simp only [Act.put, List.setIfInBounds_toArray, List.set_cons_zero, List.set_cons_succ]
              refine EG_take 6 (v := ?v172) (by simp only [List.getElem?_toArray, List.getElem?_cons_succ, List.getElem?_cons_zero]; rfl) (by kernel_rfl) (by kernel_rfl) (by decide) (fun _ _ _ h => h) (Or.inl ⟨by rfl, ?hy172⟩) (KEEP.out _ (ext_drew _)) ?rest172
              case hy172 => intro W hSW; (try dsimp only at hSW); obtain ⟨e0, e1, e2, e3, e4, e5, e6, e7, e8, e9, e10⟩ := hSW; go_simp <;> with_reducible rfl
              try simp only [Act.put, List.setIfInBounds_toArray, List.set_cons_zero, List.set_cons_succ]
              refine EG_take 7 (v := ?v173) (by simp only [List.getElem?_toArray, List.getElem?_cons_succ, List.getElem?_cons_zero]; rfl) (by kernel_rfl) (by kernel_rfl) (by decide) (fun _ _ _ h => h) (Or.inl ⟨by rfl, ?hy173⟩) (KEEP.out _ (ext_drew _)) ?rest173
              case hy173 => intro W hSW; (try dsimp only at hSW); obtain ⟨e0, e1, e2, e3, e4, e5, e6, e7, e8, e9, e10⟩ := hSW; go_simp <;> with_reducible rfl
              try simp only [Act.put, List.setIfInBounds_toArray, List.set_cons_zero, List.set_cons_succ]
              refine EG_take 8 (v := ?v174) (by simp only [List.getElem?_toArray, List.getElem?_cons_succ, List.getElem?_cons_zero]; rfl) (by kernel_rfl) (by kernel_rfl) (by decide) (fun _ _ _ h => h) (Or.inl ⟨by rfl, ?hy174⟩) (KEEP.out _ (ext_drew _)) ?rest174
              case hy174 => intro W hSW; (try dsimp only at hSW); obtain ⟨e0, e1, e2, e3, e4, e5, e6, e7, e8, e9, e10⟩ := hSW; go_simp <;> with_reducible rfl
              try simp only [Act.put, List.setIfInBounds_toArray, List.set_cons_zero, List.set_cons_succ]
              refine EG_take 10 (v := ?v175) (by simp only [List.getElem?_toArray, List.getElem?_cons_succ, List.getElem?_cons_zero]; rfl) (by kernel_rfl) (by kernel_rfl) (by decide) (fun _ _ _ h => h) (Or.inl ⟨by rfl, ?hy175⟩) (KEEP.out _ (ext_drew _)) ?rest175
              case hy175 => intro W hSW; (try dsimp only at hSW); obtain ⟨e0, e1, e2, e3, e4, e5, e6, e7, e8, e9, e10⟩ := hSW; go_simp <;> with_reducible rfl
              try simp only [Act.put, List.setIfInBounds_toArray, List.set_cons_zero, List.set_cons_succ]
              refine EG_take 11 (v := ?v176) (by simp only [List.getElem?_toArray, List.getElem?_cons_succ, List.getElem?_cons_zero]; rfl) (by kernel_rfl) (by kernel_rfl) (by decide) (fun _ _ _ h => h) (Or.inl ⟨by rfl, ?hy176⟩) (KEEP.out _ (ext_drew _)) ?rest176
              case hy176 => intro W hSW; (try dsimp only at hSW); obtain ⟨e0, e1, e2, e3, e4, e5, e6, e7, e8, e9, e10⟩ := hSW; go_simp <;> with_reducible rfl
              try simp only [Act.put, List.setIfInBounds_toArray, List.set_cons_zero, List.set_cons_succ]
              refine EG_one 9 (by kernel_rfl) (by simp only [List.getElem?_toArray, List.getElem?_cons_succ, List.getElem?_cons_zero]; rfl) (by decide) ?_
              intro K hK0
              have hK := hid hK0
              clear hK0
              go_simp
              refine (CG.out).mono ?_
              rintro e w3 ⟨A3, c3, rfl, o3, q3, s3⟩
              have PC3 := hid (PutC.step PC0.out (ext_trans EZ.out (ext_drew _)) (qc_more q3 s3.size) s3)
              have b3 := (BZ.out.ext (ext_drew _)).shy s3 HGU.out
              have S3 : Hid (w3.cell? ⟨gx, 0, none⟩ = some (.int .i64 m.a.kind) ∧ w3.cell? ⟨gx, 1, none⟩ = some (.int .i64 m.a.now) ∧ w3.cell? ⟨gx, 2, none⟩ = some (.int .i64 m.a.rank) ∧ w3.cell? ⟨gx, 3, none⟩ = some (.int .i64 m.a.type) ∧ w3.cell? ⟨gx, 4, none⟩ = some (.int .i64 m.a.ttl) ∧ w3.cell? ⟨gx, 5, none⟩ = some (.string xn) ∧ w3.cell? ⟨gx, 6, none⟩ = some (.string xsn) ∧ w3.cell? ⟨gx, 7, none⟩ = some (.int .i64 m.a.s.ty) ∧ w3.cell? ⟨gx, 8, none⟩ = some (.int .i64 m.a.s.cl) ∧ w3.cell? ⟨gx, 9, none⟩ = some (.int .i64 m.a.s.ttl) ∧ w3.cell? ⟨gx, 10, none⟩ = some (.slice m.A xl m.d)) := hid ⟨b3.cell 0, b3.cell 1, b3.cell 2, b3.cell 3, b3.cell 4, b3.cell 5, b3.cell 6, b3.cell 7, b3.cell 8, b3.cell 9, b3.cell 10⟩
              have KEEP3 : Hid (∀ W, Ext w3 W → W.cell? ⟨gx, 0, none⟩ = some (.int .i64 m.a.kind) ∧ W.cell? ⟨gx, 1, none⟩ = some (.int .i64 m.a.now) ∧ W.cell? ⟨gx, 2, none⟩ = some (.int .i64 m.a.rank) ∧ W.cell? ⟨gx, 3, none⟩ = some (.int .i64 m.a.type) ∧ W.cell? ⟨gx, 4, none⟩ = some (.int .i64 m.a.ttl) ∧ W.cell? ⟨gx, 5, none⟩ = some (.string xn) ∧ W.cell? ⟨gx, 6, none⟩ = some (.string xsn) ∧ W.cell? ⟨gx, 7, none⟩ = some (.int .i64 m.a.s.ty) ∧ W.cell? ⟨gx, 8, none⟩ = some (.int .i64 m.a.s.cl) ∧ W.cell? ⟨gx, 9, none⟩ = some (.int .i64 m.a.s.ttl) ∧ W.cell? ⟨gx, 10, none⟩ = some (.slice m.A xl m.d)) := hid (fun W y => by
                have b := b3.ext y
                exact ⟨b.cell 0, b.cell 1, b.cell 2, b.cell 3, b.cell 4, b.cell 5, b.cell 6, b.cell 7, b.cell 8, b.cell 9, b.cell 10⟩)
              have CT : Hid (Calls Try.prog 30 #[foundV f A3 c3, .slice A1 P.length c1, .agg #[.int .i64 m.a.kind, .int .i64 m.a.now, .int .i64 m.a.rank, .int .i64 m.a.type, .int .i64 m.a.ttl, .string xn, .string xsn, .int .i64 m.a.s.ty, .int .i64 m.a.s.cl, .int .i64 m.a.s.ttl, .slice m.A xl m.d]] w3 fun e w' => e = .returned (.bool true) ∧ Ext w3 w') := hid (by
                have ec : (cellsA m).toArray = #[.int .i64 m.a.kind, .int .i64 m.a.now, .int .i64 m.a.rank, .int .i64 m.a.type, .int .i64 m.a.ttl, .string xn, .string xsn, .int .i64 m.a.s.ty, .int .i64 m.a.s.cl, .int .i64 m.a.s.ttl, .slice m.A xl m.d] := by unfold cellsA; rw [HXN.out, HXSN.out, HXL.out]
                rw [← ec]
                rcases TO.out.2 with h0 | ⟨h0, h2⟩
                · exact told_none h0
                · exact told_in o3.rd (putsR_of PC3.out HP.out (ext_refl _)) HWF.out (by omega) hin h0 h2)
              clear o3 q3 s3 b3 CG
              unfold foundV at CT ⊢
              go_simp
              refine hK.out _ _ (KEEP3.out _ (ext_refl _)) ?_
              clear hK K
              try simp only [Act.put, List.setIfInBounds_toArray, List.set_cons_zero, List.set_cons_succ]
              refine EG_one 12 (by kernel_rfl) (by simp only [List.getElem?_toArray, List.getElem?_cons_succ, List.getElem?_cons_zero]; rfl) (by decide) ?_
              intro K hK0
              have hK := hid hK0
              clear hK0
              go_simp
              refine CT.out.mono ?_
              rintro e w5 ⟨rfl, x5⟩
              have PC9 := hid (PC3.out.ext x5)
              have X5 := hid x5
              clear x5 CT
              go_simp
              refine hK.out _ _ (KEEP3.out _ X5.out) ?_
              clear hK K
              try simp only [Act.put, List.setIfInBounds_toArray, List.set_cons_zero, List.set_cons_succ]
              refine EG_end (by kernel_rfl) (by simp only [List.getElem?_toArray, List.getElem?_cons_succ, List.getElem?_cons_zero]; rfl) ?_
              intro K hK0
              have hK := hid hK0
              clear hK0
              go_simp
              refine hK.out _ _ ?_
              clear hK K
              refine NoPanic.normal ?_
              have INV9 := hid TO.out.1
              have HP9 := HP
              have CL := c_len PC9.out.q
              simp only [pt] at CL
              obtain ⟨ln, hln⟩ : ∃ ln, s'.L.length = ln := ⟨_, rfl⟩
              have hlm := PC9.out.q.1.2.2.1
              rw [hln] at CL hlm
              have CL := hid CL
              have l1 : decide (most < (ln : Int)) = false := (by simpa using hlm)
              have l2 : decide ((ln : Int) < 0) = false := (by simp)
              have REL : TrRel w g most M (.slice A1 P.length c1) (.int .i64 ((k : Int) + 1)) w5 := ⟨k + 1, A1, c1, s', P, m.a.now, by omega, by go_num, by first | rfl | (rw [List.length_append]; done) | (rw [List.length_append]; rfl), by (try rw [List.length_append, List.length_singleton]); omega, PC9.out, HP9.out, INV9.out, fun _ => ⟨by rw [Nat.add_sub_cancel, HME.out], hin⟩, fun h => by omega⟩
              have REL := hid REL
              clear hln hlm
              clear KEEP KEEP3
              go_wp2_with fail
              refine CL.out.mono ?_
              rintro e _ ⟨rfl, rfl⟩
              go_wp2_with fail
              refine CL.out.mono ?_
              rintro e _ ⟨rfl, rfl⟩
              go_wp2_with fail
              go_roundw
              case rel => exact REL.out
              case measure => simp [intOf]; omega
          · as_aux_lemma =>
              have CL0 := c_len QZ.out
              have CW := c_sweep QZ.out m.a.now
              have TS := true_sweep INV.out hup hin
              obtain ⟨rs, hrs⟩ : ∃ rs, sweepG s m.a.now = rs := ⟨_, rfl⟩
              rw [hrs] at CW TS
              obtain ⟨s', sn⟩ := rs
              simp only at CW TS
              obtain ⟨ts1, ts2, ts3⟩ := TS
              obtain ⟨l0, hl0⟩ : ∃ l0, s.L.length = l0 := ⟨_, rfl⟩
              rw [hl0] at CL0 ts2 ts3
              simp only [pt] at CL0 CW
              have CL0 := hid CL0
              have CW := hid CW
              have INV9 := hid ts1
              have hl09 := PC0.out.q.1.2.2.1
              rw [hl0] at hl09
              clear hrs hl0 ts1 y0 y2 y3 y4 y5 y6 y7 y8 y9 y10
              go_wp2_with fail
              refine CL0.out.mono ?_
              rintro e _ ⟨rfl, rfl⟩
              go_wp2_with fail
              refine CW.out.mono ?_
              rintro e w3 ⟨rfl, q3, s3⟩
              have PC9 := hid (PutC.step PC0.out EZ.out (qc_more q3 s3.size) s3)
              have HP9 := HP
              clear q3 s3 CW CL0 y1
              have CL := c_len PC9.out.q
              simp only [pt] at CL
              obtain ⟨ln, hln⟩ : ∃ ln, s'.L.length = ln := ⟨_, rfl⟩
              have hlm := PC9.out.q.1.2.2.1
              rw [hln] at CL hlm ts2 ts3
              have CL := hid CL
              have l1 : decide (most < (ln : Int)) = false := (by simpa using hlm)
              have l2 : decide ((ln : Int) < 0) = false := (by simp)
              have REL : TrRel w g most M (.slice A1 P.length c1) (.int .i64 ((k : Int) + 1)) w3 := ⟨k + 1, A1, c1, s', P, m.a.now, by omega, by go_num, by first | rfl | (rw [List.length_append]; done) | (rw [List.length_append]; rfl), by (try rw [List.length_append, List.length_singleton]); omega, PC9.out, HP9.out, INV9.out, fun _ => ⟨by rw [Nat.add_sub_cancel, HME.out], hin⟩, fun h => by omega⟩
              have REL := hid REL
              clear hln hlm
              have u1 : wrap64 ((l0 : Int) - (ln : Int)) = (sn : Int) := by rw [show (l0 : Int) - (ln : Int) = (sn : Int) from by omega]; exact IntWalk.wrap64_in _ (by omega)
              have u2 : IntKind.i64.wrap ((l0 : Int) - (ln : Int)) = (sn : Int) := by rw [show (l0 : Int) - (ln : Int) = (sn : Int) from by omega]; exact IntWalk.i64_in _ (by omega)
              have u3 : (l0 : Int) - (ln : Int) = (sn : Int) := by omega
              have u4 : ((sn : Int) != (sn : Int)) = false := by simp
              clear u3 ts2 ts3
              go_wp2_with fail
              refine CL.out.mono ?_
              rintro e _ ⟨rfl, rfl⟩
              go_wp2_with fail
              refine CL.out.mono ?_
              rintro e _ ⟨rfl, rfl⟩
              go_wp2_with fail
              refine CL.out.mono ?_
              rintro e _ ⟨rfl, rfl⟩
              go_wp2_with fail
              go_roundw
              case rel => exact REL.out
              case measure => simp [intOf]; omega
          · have t3 : (pk == 3) = false := by simp; omega
            have t4 : (pk == 4) = false := by simp; omega
            have t5 : (pk == 5) = false := by simp; omega
            have t6 : (pk == 6) = false := by simp; omega
            have t7 : (pk == 7) = false := by simp; omega
            have CP := c_put_any QZ.out (x := m.a.s) (A := m.A) (c := m.d) (rank := m.a.rank) (at_ := m.a.now) (HRT.out.1.ext (ext_trans PC0.out.x EZ.out)) (by omega) (fun d hd => by have := SM4.out d hd; omega) (fun h1 q hq e => by obtain ⟨b9, h9, h99⟩ := HRT.out.1.lt (by omega); rw [h9] at hq; injection hq with hq; subst hq; have := e.1; omega)
            have TI := true_put (most := most) INV.out (x := m.a.s) (rank := m.a.rank) (at_ := m.a.now) hup m.A m.d
            obtain ⟨rs, hrs⟩ : ∃ rs, putG most s m.a.s m.a.rank m.a.now = rs := ⟨_, rfl⟩
            rw [hrs] at CP TI
            obtain ⟨s', bb, er⟩ := rs
            simp only at CP TI
            rw [HXSN.out, HXL.out] at CP
            simp only [pt] at CP
            have CP := hid CP
            have TI := hid TI
            clear hrs
            go_wp2_with fail
            refine CP.out.mono ?_
            rintro e w3 ⟨rfl, q3, s3⟩
            have PC3 := hid (PutC.step PC0.out EZ.out q3 s3)
            have b3 := BZ.out.shy s3 HGU.out
            clear q3 s3 CP y0 y1 y2 y3 y4 y5 y6 y7 y8 y9 y10
            have y1 := b3.cell 1
            have y2 := b3.cell 2
            have y6 := b3.cell 6
            have y7 := b3.cell 7
            have y8 := b3.cell 8
            have y9 := b3.cell 9
            have y10 := b3.cell 10
            simp at y1 y2 y6 y7 y8 y9 y10
            clear b3
            cases bb with
            | false =>
              have INV9 := hid (TI.out.2 rfl)
              have HP9 := HP
              have PC9 := PC3
              have CL := c_len PC9.out.q
              simp only [pt] at CL
              obtain ⟨ln, hln⟩ : ∃ ln, s'.L.length = ln := ⟨_, rfl⟩
              have hlm := PC9.out.q.1.2.2.1
              rw [hln] at CL hlm
              have CL := hid CL
              have l1 : decide (most < (ln : Int)) = false := (by simpa using hlm)
              have l2 : decide ((ln : Int) < 0) = false := (by simp)
              have REL : TrRel w g most M (.slice A1 P.length c1) (.int .i64 ((k : Int) + 1)) w3 := ⟨k + 1, A1, c1, s', P, m.a.now, by omega, by go_num, by first | rfl | (rw [List.length_append]; done) | (rw [List.length_append]; rfl), by (try rw [List.length_append, List.length_singleton]); omega, PC9.out, HP9.out, INV9.out, fun _ => ⟨by rw [Nat.add_sub_cancel, HME.out], hin⟩, fun h => by omega⟩
              have REL := hid REL
              clear hln hlm
              go_wp2_with fail
              refine CL.out.mono ?_
              rintro e _ ⟨rfl, rfl⟩
              go_wp2_with fail
              refine CL.out.mono ?_
              rintro e _ ⟨rfl, rfl⟩
              go_wp2_with fail
              go_roundw
              case rel => exact REL.out
              case measure => simp [intOf]; omega
            | true =>
              have NEW : Hid (WfP (putOf m.a.s m.a.rank m.a.now m.A m.d).p ∧ RdG w 1 (putOf m.a.s m.a.rank m.a.now m.A m.d).A (putOf m.a.s m.a.rank m.a.now m.A m.d).p.s.data.length (putOf m.a.s m.a.rank m.a.now m.A m.d).d (tvs (putOf m.a.s m.a.rank m.a.now m.A m.d).p.s.data)) := hid (by
                obtain ⟨_, t1, t2, t8, t9⟩ := TI.out.1 rfl
                refine ⟨⟨by show m.a.s.nm.length ≤ 2000000; omega, HWF.out.s.ty, chk_ttl t1, ⟨by show -9223372036854775808 ≤ m.a.rank; omega, by show m.a.rank ≤ 9223372036854775807; omega⟩, t2, HWF.out.s.ttl⟩, HRT.out.1⟩)
              have xa := ext_alloc w3 (.cells #[.string xsn, .int .i64 m.a.s.ty, .string xsn, .int .i64 m.a.s.ty, .int .i64 m.a.s.cl, .int .i64 m.a.s.ttl, .slice m.A xl m.d, .bool true, .int .i64 m.a.s.ttl, .int .i64 m.a.rank, .int .i64 m.a.now] 69)
              have bn := Blk.new w3 69 #[.string xsn, .int .i64 m.a.s.ty, .string xsn, .int .i64 m.a.s.ty, .int .i64 m.a.s.cl, .int .i64 m.a.s.ttl, .slice m.A xl m.d, .bool true, .int .i64 m.a.s.ttl, .int .i64 m.a.rank, .int .i64 m.a.now]
              obtain ⟨wn, hwn⟩ : ∃ wn, w3.alloc (.cells #[.string xsn, .int .i64 m.a.s.ty, .string xsn, .int .i64 m.a.s.ty, .int .i64 m.a.s.cl, .int .i64 m.a.s.ttl, .slice m.A xl m.d, .bool true, .int .i64 m.a.s.ttl, .int .i64 m.a.rank, .int .i64 m.a.now] 69) = wn := ⟨_, rfl⟩
              obtain ⟨gn, hgn⟩ : ∃ gn, w3.heap.size = gn := ⟨_, rfl⟩
              rw [hwn] at xa bn
              rw [hgn] at bn
              have src : RdG wn 11 (some ⟨gn, 0, none⟩) 1 1 (cellsP (putOf m.a.s m.a.rank m.a.now m.A m.d)) := ⟨rfl, Nat.le_refl _, by simp [maxLen], fun _ => ⟨gn, 0, rfl, bn.lt, fun j u hj => by
                rw [Nat.zero_add, bn.cell]
                have e9 : (cellsP (putOf m.a.s m.a.rank m.a.now m.A m.d)).toArray = #[.string xsn, .int .i64 m.a.s.ty, .string xsn, .int .i64 m.a.s.ty, .int .i64 m.a.s.cl, .int .i64 m.a.s.ttl, .slice m.A xl m.d, .bool true, .int .i64 m.a.s.ttl, .int .i64 m.a.rank, .int .i64 m.a.now] := by first | (rw [← HXN.out]; rfl) | (rw [← HXSN.out, ← HXL.out]; rfl)
                rw [← e9]
                simpa using hj⟩⟩
              have dst := PC3.out.o.ext xa
              have PCN := hid (PC3.out.ext xa)
              have SRC := hid src
              have DST := hid dst
              have HPN9 : Hid (∀ q ∈ P ++ [putOf m.a.s m.a.rank m.a.now m.A m.d], WfP q.p ∧ RdG w 1 q.A q.p.s.data.length q.d (tvs q.p.s.data)) := hid (fun q hq => by
                rcases List.mem_append.1 hq with hq | hq
                · exact HP.out q hq
                · rw [List.mem_singleton] at hq
                  subst hq
                  exact NEW.out)
              have hwz9 : w.heap.size ≤ wn.heap.size := PCN.out.x.size
              have hpl9 : P.length ≤ 100 := by omega
              have INV9 := hid (TI.out.1 rfl).1
              clear xa bn src dst
              go_wp2_with (at_builtin; go_must (refine wpList_append_g (ok := okP) rfl (.tmp 85) (.tmp 102) 67 rfl w.heap.size 69 i0 (.agg #[.string ⟨#[]⟩, .int .i64 0, .string ⟨#[]⟩, .int .i64 0, .int .i64 0, .int .i64 0, .slice none 0 0, .bool false, .int .i64 0, .int .i64 0, .int .i64 0]) 11 120 Try.underlying67 hi hz0 hz1 hz2 rfl (by decide) zeroP (fun _ h => h) rfl DST.out rfl SRC.out (okP_cells _) (by omega) (by unfold maxLen; omega) (by omega) ?_; intro A6 c6 w6 o6 g6 n6; have PC9 : Hid (PutC w w6 g most s' A6 c6 (P ++ [putOf m.a.s m.a.rank m.a.now m.A m.d])) := hid (PCN.out.app (by rw [List.length_append, ← cellsPM_app]; exact o6) g6 (fun q hq => by (rcases n6 with n6 | n6; (left; rw [← n6]; exact hq); (right; rw [n6] at hq; simp at hq; omega)))); have HP9 := HPN9; clear o6 g6 n6; have CL := c_len PC9.out.q; simp only [pt] at CL; obtain ⟨ln, hln⟩ : ∃ ln, s'.L.length = ln := ⟨_, rfl⟩; have hlm := PC9.out.q.1.2.2.1; rw [hln] at CL hlm; have CL := hid CL; have l1 : decide (most < (ln : Int)) = false := (by simpa using hlm); have l2 : decide ((ln : Int) < 0) = false := (by simp); have REL : TrRel w g most M (.slice A6 (P.length + 1) c6) (.int .i64 ((k : Int) + 1)) w6 := ⟨k + 1, A6, c6, s', P ++ [putOf m.a.s m.a.rank m.a.now m.A m.d], m.a.now, by omega, by go_num, by first | rfl | (rw [List.length_append]; done) | (rw [List.length_append]; rfl), by (try rw [List.length_append, List.length_singleton]); omega, PC9.out, HP9.out, INV9.out, fun _ => ⟨by rw [Nat.add_sub_cancel, HME.out], hin⟩, fun h => by omega⟩; have REL := hid REL; clear hln hlm))
              refine CL.out.mono ?_
              rintro e _ ⟨rfl, rfl⟩
              go_wp2_with fail
              refine CL.out.mono ?_
              rintro e _ ⟨rfl, rfl⟩
              go_wp2_with fail
              go_roundw
              case rel => exact REL.out
              case measure => simp [intOf]; omega
      · obtain rfl : k = n := by omega
        go_wp2_with fail
        go_ret
        exact ⟨rfl, pc.x⟩
end Go.Proofs.Ytcddfenhkljpeaa

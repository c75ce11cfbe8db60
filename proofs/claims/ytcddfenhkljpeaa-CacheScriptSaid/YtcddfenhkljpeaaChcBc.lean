import Derived.Test.YtcddfenhkljpeaaChcBb
import Derived.Test.YtcddfenhkljpeaaKitE
/- Layer 23: the document's At. (Printed by gen_chcbc.py.) -/
namespace Go.Proofs.Ytcddfenhkljpeaa
open Go.BK Go.BK.CH Go.BK.NM Go.RowKit Go.Maps
set_option linter.unusedVariables false
set_option linter.unusedSimpArgs false
/-- The place of an entry. -/
def hitT (n : List UInt8) (k : Int) (r : TRow) : Bool := decide (r.e.n = n ∧ r.e.k = k)
def idxT (T : List TRow) (n : List UInt8) (k : Int) : Option Nat := T.findIdx? (hitT n k)
def idxV (o : Option Nat) : Int := match o with | some i => (i : Int) | none => -1
def AtRel (w0 : World) (T : List TRow) (n : List UInt8) (k : Int) (iv : Value) (wr : World) : Prop :=
  ∃ j : Nat, j ≤ T.length ∧ iv = .int .i64 j ∧ (∀ i, i < j → hitT n k (T.getD i tr0) = false) ∧ Ext w0 wr
theorem idxT_some {T : List TRow} {n : List UInt8} {k : Int} {j : Nat} (hj : j < T.length) (h : hitT n k (T.getD j tr0) = true) (hno : ∀ i, i < j → hitT n k (T.getD i tr0) = false) : idxT T n k = some j := by
  unfold idxT
  rw [List.findIdx?_eq_some_iff_getElem]
  have e : ∀ i (hi : i < T.length), T.getD i tr0 = T[i] := fun i hi => by simp [List.getD, hi]
  refine ⟨hj, by rw [e j hj] at h; exact h, fun i hi => ?_⟩
  have := hno i hi
  rw [e i (by omega)] at this
  simp [this]
theorem idxT_none {T : List TRow} {n : List UInt8} {k : Int} (hno : ∀ i, i < T.length → hitT n k (T.getD i tr0) = false) : idxT T n k = none := by
  unfold idxT
  rw [List.findIdx?_eq_none_iff]
  intro x hx
  obtain ⟨i, hi, rfl⟩ := List.getElem_of_mem hx
  have := hno i hi
  rw [show T.getD i tr0 = T[i] from by simp [List.getD, hi]] at this
  exact this
section
variable {w w' : World} {g : Nat} {most now : Int} {A : Option Addr} {c : Nat} {T : List TRow}
set_option maxHeartbeats 4000000 in
set_option maxRecDepth 100000 in
theorem at_in (h : RefC w g most now A c T) {n : List UInt8} {kind : Int} (hn : n.length ≤ 2000000) :
    Calls Try.prog 29 #[pt g, .string (str n), .int .i64 kind] w fun e w' => e = .returned (.int .i64 (idxV (idxT T (lower n) kind))) ∧ Ext w w' := by
  obtain ⟨m, hm⟩ : ∃ m, T.length = m := ⟨_, rfl⟩
  have hm9 := h.r.n_le
  rw [hm] at hm9
  obtain ⟨V, hV⟩ : ∃ V, idxV (idxT T (lower n) kind) = V := ⟨_, rfl⟩
  rw [hV]
  have CLO := fun W => ref_lower n W hn
  obtain ⟨low, hlow⟩ : ∃ low, lower n = low := ⟨_, rfl⟩
  rw [hlow] at CLO hV
  have CLO := hid CLO
  have H := hid h
  have HM := hid hm
  have HV := hid hV
  simp only [pt]
  clear h hm hV hlow
  go_enter Try.func29, Try.ntmps29
  go_wp2_with fail
  go_loopw [7] (fun iv wr => AtRel w T low kind iv wr) (fun iv _ => m - (intOf iv).toNat)
  case atStart => exact ⟨0, Nat.zero_le _, rfl, by omega, ext_refl _⟩
  case round =>
    obtain ⟨j, hj, rfl, hno, hx⟩ := hrel
    rw [HM.out] at hj
    have c1 : wr.cell? ⟨g, 1, none⟩ = some (.slice A m c) := by have := (H.out.b.ext hx).cell 1; rw [HM.out] at this; exact this
    by_cases hlt : j < m
    · have i1 : (j : Int) < (m : Int) := by omega
      have i2 : j < m := hlt
      have i3 : (0 : Int) ≤ (j : Int) := by omega
      obtain ⟨b, o, rfl, hb, hc⟩ := (H.out.ext hx).at_ (by rw [HM.out]; omega)
      obtain ⟨t, htm, hte, ha⟩ := hc j (by rw [HM.out]; exact hlt)
      have a0 := ha 0 _ rfl
      have a1 := ha 1 _ rfl
      simp only [Nat.add_zero] at a0
      obtain ⟨tn, htn⟩ : ∃ tn, t.e.n = tn := ⟨_, rfl⟩
      obtain ⟨tk, htk⟩ : ∃ tk, t.e.k = tk := ⟨_, rfl⟩
      rw [htn] at a0
      rw [htk] at a1
      have KEEP : Hid (∀ W, Ext wr W → W.cell? ⟨g, 1, none⟩ = some (.slice (some ⟨b, o, none⟩) m c) ∧ W.cell? ⟨b, o + j * 10, none⟩ = some (.string (str tn)) ∧ W.cell? ⟨b, o + j * 10 + 1, none⟩ = some (.int .i64 tk)) := hid (fun W y => ⟨(y.cell (p := ⟨g, 1, none⟩) (H.out.b.ext hx).lt).trans c1, (y.cell (p := ⟨b, o + j * 10, none⟩) hb).trans a0, (y.cell (p := ⟨b, o + j * 10 + 1, none⟩) hb).trans a1⟩)
      have HX := hid hx
      have HNO := hid hno
      have HTE := hid hte
      have HTN := hid htn
      have HTK := hid htk
      clear hx hno hte htn htk htm ha hc a0 a1
      go_upto_region 4 with (fail)
      clear c1
      by_cases hnm : tn = low
      · have q1 : (tn == low) = true := by simpa using hnm
        have HNM := hid hnm
        clear hnm
        by_cases hkk : tk = kind
        · have q2 : (tk == kind) = true := by simpa using hkk
          have F : V = (j : Int) := by
            rw [← HV.out, idxT_some (j := j) (by rw [HM.out]; exact hlt) (by rw [HTE.out]; unfold hitT; rw [HTN.out, HTK.out]; simp [HNM.out, hkk]) HNO.out]
            rfl
          have F := hid F
          clear hkk
          refine wp_region_noPanic ?_
          refine region_E (S := fun W => W.cell? ⟨g, 1, none⟩ = some (.slice (some ⟨b, o, none⟩) m c) ∧ W.cell? ⟨b, o + j * 10, none⟩ = some (.string (str tn)) ∧ W.cell? ⟨b, o + j * 10 + 1, none⟩ = some (.int .i64 tk)) 22 (by kernel_rfl) (by kernel_rfl) (by kernel_rfl) ?_
          refine EG_take 0 (v := ?v1) (by simp only [lga, lgb, lgc]; rfl) (by kernel_rfl) (by kernel_rfl) (by decide) (fun _ _ _ h => h) (Or.inl ⟨by rfl, ?hy1⟩) (KEEP.out _ (ext_drew _)) ?rest1
          case hy1 => intro W hSW; (try dsimp only at hSW); obtain ⟨e0, e1, e2⟩ := hSW; go_simp <;> with_reducible rfl
          try simp only [Act.put, lsa, lsb, lsc]
          refine EG_take 1 (v := ?v2) (by simp only [lga, lgb, lgc]; rfl) (by kernel_rfl) (by kernel_rfl) (by decide) (fun _ _ _ h => h) (Or.inl ⟨by rfl, ?hy2⟩) (KEEP.out _ (ext_drew _)) ?rest2
          case hy2 => intro W hSW; (try dsimp only at hSW); obtain ⟨e0, e1, e2⟩ := hSW; go_simp <;> with_reducible rfl
          try simp only [Act.put, lsa, lsb, lsc]
          refine EG_take 2 (v := ?v3) (by simp only [lga, lgb, lgc]; rfl) (by kernel_rfl) (by kernel_rfl) (by decide) (fun _ _ _ h => h) (Or.inl ⟨by rfl, ?hy3⟩) (KEEP.out _ (ext_drew _)) ?rest3
          case hy3 => intro W hSW; (try dsimp only at hSW); obtain ⟨e0, e1, e2⟩ := hSW; go_simp <;> with_reducible rfl
          try simp only [Act.put, lsa, lsb, lsc]
          refine EG_take 3 (v := ?v4) (by simp only [lga, lgb, lgc]; rfl) (by kernel_rfl) (by kernel_rfl) (by decide) (fun _ _ _ h => h) (Or.inl ⟨by rfl, ?hy4⟩) (KEEP.out _ (ext_drew _)) ?rest4
          case hy4 => intro W hSW; (try dsimp only at hSW); obtain ⟨e0, e1, e2⟩ := hSW; go_simp <;> with_reducible rfl
          try simp only [Act.put, lsa, lsb, lsc]
          refine EG_take 4 (v := ?v5) (by simp only [lga, lgb, lgc]; rfl) (by kernel_rfl) (by kernel_rfl) (by decide) (fun _ _ _ h => h) (Or.inl ⟨by rfl, ?hy5⟩) (KEEP.out _ (ext_drew _)) ?rest5
          case hy5 => intro W hSW; (try dsimp only at hSW); obtain ⟨e0, e1, e2⟩ := hSW; go_simp <;> with_reducible rfl
          try simp only [Act.put, lsa, lsb, lsc]
          refine EG_take 5 (v := ?v6) (by simp only [lga, lgb, lgc]; rfl) (by kernel_rfl) (by kernel_rfl) (by decide) (fun _ _ _ h => h) (Or.inl ⟨by rfl, ?hy6⟩) (KEEP.out _ (ext_drew _)) ?rest6
          case hy6 => intro W hSW; (try dsimp only at hSW); obtain ⟨e0, e1, e2⟩ := hSW; go_simp <;> with_reducible rfl
          try simp only [Act.put, lsa, lsb, lsc]
          refine EG_take 6 (v := ?v7) (by simp only [lga, lgb, lgc]; rfl) (by kernel_rfl) (by kernel_rfl) (by decide) (fun _ _ _ h => h) (Or.inl ⟨by rfl, ?hy7⟩) (KEEP.out _ (ext_drew _)) ?rest7
          case hy7 => intro W hSW; (try dsimp only at hSW); obtain ⟨e0, e1, e2⟩ := hSW; go_simp <;> with_reducible rfl
          try simp only [Act.put, lsa, lsb, lsc]
          refine EG_take 7 (v := ?v8) (by simp only [lga, lgb, lgc]; rfl) (by kernel_rfl) (by kernel_rfl) (by decide) (fun _ _ _ h => h) (Or.inl ⟨by rfl, ?hy8⟩) (KEEP.out _ (ext_drew _)) ?rest8
          case hy8 => intro W hSW; (try dsimp only at hSW); obtain ⟨e0, e1, e2⟩ := hSW; go_simp <;> with_reducible rfl
          try simp only [Act.put, lsa, lsb, lsc]
          refine EG_take 8 (v := ?v9) (by simp only [lga, lgb, lgc]; rfl) (by kernel_rfl) (by kernel_rfl) (by decide) (fun _ _ _ h => h) (Or.inl ⟨by rfl, ?hy9⟩) (KEEP.out _ (ext_drew _)) ?rest9
          case hy9 => intro W hSW; (try dsimp only at hSW); obtain ⟨e0, e1, e2⟩ := hSW; go_simp <;> with_reducible rfl
          try simp only [Act.put, lsa, lsb, lsc]
          refine EG_one 9 (by kernel_rfl) (by simp only [lga, lgb, lgc]; rfl) (by decide) ?_
          intro K hK0
          have hK := hid hK0
          clear hK0
          go_simp
          refine (CLO.out _).mono ?_
          rintro e w3 ⟨rfl, x3⟩
          have X3 : Hid (Ext wr w3) := hid (ext_trans (ext_drew _) x3)
          clear x3
          go_simp
          refine hK.out _ _ (KEEP.out _ X3.out) ?_
          clear hK K
          try simp only [Act.put, lsa, lsb, lsc]
          refine EG_take 10 (v := ?v10) (by simp only [lga, lgb, lgc]; rfl) (by kernel_rfl) (by kernel_rfl) (by decide) (fun _ _ _ h => h) (Or.inl ⟨by rfl, ?hy10⟩) (KEEP.out _ X3.out) ?rest10
          case hy10 => intro W hSW; (try dsimp only at hSW); obtain ⟨e0, e1, e2⟩ := hSW; go_simp <;> with_reducible rfl
          try simp only [Act.put, lsa, lsb, lsc]
          refine EG_take 11 (v := ?v11) (by simp only [lga, lgb, lgc]; rfl) (by kernel_rfl) (by kernel_rfl) (by decide) (fun _ _ _ h => h) (Or.inl ⟨by rfl, ?hy11⟩) (KEEP.out _ X3.out) ?rest11
          case hy11 => intro W hSW; (try dsimp only at hSW); obtain ⟨e0, e1, e2⟩ := hSW; go_simp <;> with_reducible rfl
          try simp only [Act.put, lsa, lsb, lsc]
          refine EG_take 12 (v := ?v12) (by simp only [lga, lgb, lgc]; rfl) (by kernel_rfl) (by kernel_rfl) (by decide) (fun _ _ _ h => h) (Or.inl ⟨by rfl, ?hy12⟩) (KEEP.out _ X3.out) ?rest12
          case hy12 => intro W hSW; (try dsimp only at hSW); obtain ⟨e0, e1, e2⟩ := hSW; go_simp <;> with_reducible rfl
          try simp only [Act.put, lsa, lsb, lsc]
          refine EG_take 13 (v := ?v13) (by simp only [lga, lgb, lgc]; rfl) (by kernel_rfl) (by kernel_rfl) (by decide) (fun _ _ _ h => h) (Or.inl ⟨by rfl, ?hy13⟩) (KEEP.out _ X3.out) ?rest13
          case hy13 => intro W hSW; (try dsimp only at hSW); obtain ⟨e0, e1, e2⟩ := hSW; go_simp <;> with_reducible rfl
          try simp only [Act.put, lsa, lsb, lsc]
          refine EG_take 14 (v := ?v14) (by simp only [lga, lgb, lgc]; rfl) (by kernel_rfl) (by kernel_rfl) (by decide) (fun _ _ _ h => h) (Or.inl ⟨by rfl, ?hy14⟩) (KEEP.out _ X3.out) ?rest14
          case hy14 => intro W hSW; (try dsimp only at hSW); obtain ⟨e0, e1, e2⟩ := hSW; go_simp <;> with_reducible rfl
          try simp only [Act.put, lsa, lsb, lsc]
          refine EG_take 15 (v := ?v15) (by simp only [lga, lgb, lgc]; rfl) (by kernel_rfl) (by kernel_rfl) (by decide) (fun _ _ _ h => h) (Or.inl ⟨by rfl, ?hy15⟩) (KEEP.out _ X3.out) ?rest15
          case hy15 => intro W hSW; (try dsimp only at hSW); obtain ⟨e0, e1, e2⟩ := hSW; go_simp <;> with_reducible rfl
          try simp only [Act.put, lsa, lsb, lsc]
          refine EG_take 16 (v := ?v16) (by simp only [lga, lgb, lgc]; rfl) (by kernel_rfl) (by kernel_rfl) (by decide) (fun _ _ _ h => h) (Or.inl ⟨by rfl, ?hy16⟩) (KEEP.out _ X3.out) ?rest16
          case hy16 => intro W hSW; (try dsimp only at hSW); obtain ⟨e0, e1, e2⟩ := hSW; go_simp <;> with_reducible rfl
          try simp only [Act.put, lsa, lsb, lsc]
          refine EG_take 17 (v := ?v17) (by simp only [lga, lgb, lgc]; rfl) (by kernel_rfl) (by kernel_rfl) (by decide) (fun _ _ _ h => h) (Or.inl ⟨by rfl, ?hy17⟩) (KEEP.out _ X3.out) ?rest17
          case hy17 => intro W hSW; (try dsimp only at hSW); obtain ⟨e0, e1, e2⟩ := hSW; go_simp <;> with_reducible rfl
          try simp only [Act.put, lsa, lsb, lsc]
          refine EG_take 18 (v := ?v18) (by simp only [lga, lgb, lgc]; rfl) (by kernel_rfl) (by kernel_rfl) (by decide) (fun _ _ _ h => h) (Or.inl ⟨by rfl, ?hy18⟩) (KEEP.out _ X3.out) ?rest18
          case hy18 => intro W hSW; (try dsimp only at hSW); obtain ⟨e0, e1, e2⟩ := hSW; go_simp <;> with_reducible rfl
          try simp only [Act.put, lsa, lsb, lsc]
          refine EG_take 19 (v := ?v19) (by simp only [lga, lgb, lgc]; rfl) (by kernel_rfl) (by kernel_rfl) (by decide) (fun _ _ _ h => h) (Or.inl ⟨by rfl, ?hy19⟩) (KEEP.out _ X3.out) ?rest19
          case hy19 => intro W hSW; (try dsimp only at hSW); obtain ⟨e0, e1, e2⟩ := hSW; go_simp <;> with_reducible rfl
          try simp only [Act.put, lsa, lsb, lsc]
          refine EG_take 20 (v := ?v20) (by simp only [lga, lgb, lgc]; rfl) (by kernel_rfl) (by kernel_rfl) (by decide) (fun _ _ _ h => h) (Or.inl ⟨by rfl, ?hy20⟩) (KEEP.out _ X3.out) ?rest20
          case hy20 => intro W hSW; (try dsimp only at hSW); obtain ⟨e0, e1, e2⟩ := hSW; go_simp <;> with_reducible rfl
          try simp only [Act.put, lsa, lsb, lsc]
          refine EG_take 21 (v := ?v21) (by simp only [lga, lgb, lgc]; rfl) (by kernel_rfl) (by kernel_rfl) (by decide) (fun _ _ _ h => h) (Or.inl ⟨by rfl, ?hy21⟩) (KEEP.out _ X3.out) ?rest21
          case hy21 => intro W hSW; (try dsimp only at hSW); obtain ⟨e0, e1, e2⟩ := hSW; go_simp <;> with_reducible rfl
          try simp only [Act.put, lsa, lsb, lsc]
          refine EG_end (by kernel_rfl) (by simp only [lga, lgb, lgc]; rfl) ?_
          intro K hK0
          have hK := hid hK0
          clear hK0
          go_simp
          refine hK.out _ _ ?_
          clear hK K
          refine NoPanic.normal ?_
          go_wp2_with fail
          go_ret
          exact ⟨ret_int F.out.symm, ext_trans HX.out X3.out⟩
        · have q2 : (tk == kind) = false := by simpa using hkk
          have REL : Hid (∀ W, Ext wr W → AtRel w T low kind (.int .i64 ((j : Int) + 1)) W) := hid (fun W y => ⟨j + 1, by rw [HM.out]; exact hlt, by go_num, fun i hi => by
            rcases Nat.lt_succ_iff_lt_or_eq.1 hi with h | rfl
            · exact HNO.out i h
            · rw [HTE.out]; unfold hitT; rw [HTN.out, HTK.out]; simp [hkk], ext_trans HX.out y⟩)
          clear hkk
          refine wp_region_noPanic ?_
          refine region_E (S := fun W => W.cell? ⟨g, 1, none⟩ = some (.slice (some ⟨b, o, none⟩) m c) ∧ W.cell? ⟨b, o + j * 10, none⟩ = some (.string (str tn)) ∧ W.cell? ⟨b, o + j * 10 + 1, none⟩ = some (.int .i64 tk)) 22 (by kernel_rfl) (by kernel_rfl) (by kernel_rfl) ?_
          refine EG_take 0 (v := ?v22) (by simp only [lga, lgb, lgc]; rfl) (by kernel_rfl) (by kernel_rfl) (by decide) (fun _ _ _ h => h) (Or.inl ⟨by rfl, ?hy22⟩) (KEEP.out _ (ext_drew _)) ?rest22
          case hy22 => intro W hSW; (try dsimp only at hSW); obtain ⟨e0, e1, e2⟩ := hSW; go_simp <;> with_reducible rfl
          try simp only [Act.put, lsa, lsb, lsc]
          refine EG_take 1 (v := ?v23) (by simp only [lga, lgb, lgc]; rfl) (by kernel_rfl) (by kernel_rfl) (by decide) (fun _ _ _ h => h) (Or.inl ⟨by rfl, ?hy23⟩) (KEEP.out _ (ext_drew _)) ?rest23
          case hy23 => intro W hSW; (try dsimp only at hSW); obtain ⟨e0, e1, e2⟩ := hSW; go_simp <;> with_reducible rfl
          try simp only [Act.put, lsa, lsb, lsc]
          refine EG_take 2 (v := ?v24) (by simp only [lga, lgb, lgc]; rfl) (by kernel_rfl) (by kernel_rfl) (by decide) (fun _ _ _ h => h) (Or.inl ⟨by rfl, ?hy24⟩) (KEEP.out _ (ext_drew _)) ?rest24
          case hy24 => intro W hSW; (try dsimp only at hSW); obtain ⟨e0, e1, e2⟩ := hSW; go_simp <;> with_reducible rfl
          try simp only [Act.put, lsa, lsb, lsc]
          refine EG_take 3 (v := ?v25) (by simp only [lga, lgb, lgc]; rfl) (by kernel_rfl) (by kernel_rfl) (by decide) (fun _ _ _ h => h) (Or.inl ⟨by rfl, ?hy25⟩) (KEEP.out _ (ext_drew _)) ?rest25
          case hy25 => intro W hSW; (try dsimp only at hSW); obtain ⟨e0, e1, e2⟩ := hSW; go_simp <;> with_reducible rfl
          try simp only [Act.put, lsa, lsb, lsc]
          refine EG_take 4 (v := ?v26) (by simp only [lga, lgb, lgc]; rfl) (by kernel_rfl) (by kernel_rfl) (by decide) (fun _ _ _ h => h) (Or.inl ⟨by rfl, ?hy26⟩) (KEEP.out _ (ext_drew _)) ?rest26
          case hy26 => intro W hSW; (try dsimp only at hSW); obtain ⟨e0, e1, e2⟩ := hSW; go_simp <;> with_reducible rfl
          try simp only [Act.put, lsa, lsb, lsc]
          refine EG_take 5 (v := ?v27) (by simp only [lga, lgb, lgc]; rfl) (by kernel_rfl) (by kernel_rfl) (by decide) (fun _ _ _ h => h) (Or.inl ⟨by rfl, ?hy27⟩) (KEEP.out _ (ext_drew _)) ?rest27
          case hy27 => intro W hSW; (try dsimp only at hSW); obtain ⟨e0, e1, e2⟩ := hSW; go_simp <;> with_reducible rfl
          try simp only [Act.put, lsa, lsb, lsc]
          refine EG_take 6 (v := ?v28) (by simp only [lga, lgb, lgc]; rfl) (by kernel_rfl) (by kernel_rfl) (by decide) (fun _ _ _ h => h) (Or.inl ⟨by rfl, ?hy28⟩) (KEEP.out _ (ext_drew _)) ?rest28
          case hy28 => intro W hSW; (try dsimp only at hSW); obtain ⟨e0, e1, e2⟩ := hSW; go_simp <;> with_reducible rfl
          try simp only [Act.put, lsa, lsb, lsc]
          refine EG_take 7 (v := ?v29) (by simp only [lga, lgb, lgc]; rfl) (by kernel_rfl) (by kernel_rfl) (by decide) (fun _ _ _ h => h) (Or.inl ⟨by rfl, ?hy29⟩) (KEEP.out _ (ext_drew _)) ?rest29
          case hy29 => intro W hSW; (try dsimp only at hSW); obtain ⟨e0, e1, e2⟩ := hSW; go_simp <;> with_reducible rfl
          try simp only [Act.put, lsa, lsb, lsc]
          refine EG_take 8 (v := ?v30) (by simp only [lga, lgb, lgc]; rfl) (by kernel_rfl) (by kernel_rfl) (by decide) (fun _ _ _ h => h) (Or.inl ⟨by rfl, ?hy30⟩) (KEEP.out _ (ext_drew _)) ?rest30
          case hy30 => intro W hSW; (try dsimp only at hSW); obtain ⟨e0, e1, e2⟩ := hSW; go_simp <;> with_reducible rfl
          try simp only [Act.put, lsa, lsb, lsc]
          refine EG_one 9 (by kernel_rfl) (by simp only [lga, lgb, lgc]; rfl) (by decide) ?_
          intro K hK0
          have hK := hid hK0
          clear hK0
          go_simp
          refine (CLO.out _).mono ?_
          rintro e w3 ⟨rfl, x3⟩
          have X3 : Hid (Ext wr w3) := hid (ext_trans (ext_drew _) x3)
          clear x3
          go_simp
          refine hK.out _ _ (KEEP.out _ X3.out) ?_
          clear hK K
          try simp only [Act.put, lsa, lsb, lsc]
          refine EG_take 10 (v := ?v31) (by simp only [lga, lgb, lgc]; rfl) (by kernel_rfl) (by kernel_rfl) (by decide) (fun _ _ _ h => h) (Or.inl ⟨by rfl, ?hy31⟩) (KEEP.out _ X3.out) ?rest31
          case hy31 => intro W hSW; (try dsimp only at hSW); obtain ⟨e0, e1, e2⟩ := hSW; go_simp <;> with_reducible rfl
          try simp only [Act.put, lsa, lsb, lsc]
          refine EG_take 11 (v := ?v32) (by simp only [lga, lgb, lgc]; rfl) (by kernel_rfl) (by kernel_rfl) (by decide) (fun _ _ _ h => h) (Or.inl ⟨by rfl, ?hy32⟩) (KEEP.out _ X3.out) ?rest32
          case hy32 => intro W hSW; (try dsimp only at hSW); obtain ⟨e0, e1, e2⟩ := hSW; go_simp <;> with_reducible rfl
          try simp only [Act.put, lsa, lsb, lsc]
          refine EG_take 12 (v := ?v33) (by simp only [lga, lgb, lgc]; rfl) (by kernel_rfl) (by kernel_rfl) (by decide) (fun _ _ _ h => h) (Or.inl ⟨by rfl, ?hy33⟩) (KEEP.out _ X3.out) ?rest33
          case hy33 => intro W hSW; (try dsimp only at hSW); obtain ⟨e0, e1, e2⟩ := hSW; go_simp <;> with_reducible rfl
          try simp only [Act.put, lsa, lsb, lsc]
          refine EG_take 13 (v := ?v34) (by simp only [lga, lgb, lgc]; rfl) (by kernel_rfl) (by kernel_rfl) (by decide) (fun _ _ _ h => h) (Or.inl ⟨by rfl, ?hy34⟩) (KEEP.out _ X3.out) ?rest34
          case hy34 => intro W hSW; (try dsimp only at hSW); obtain ⟨e0, e1, e2⟩ := hSW; go_simp <;> with_reducible rfl
          try simp only [Act.put, lsa, lsb, lsc]
          refine EG_take 14 (v := ?v35) (by simp only [lga, lgb, lgc]; rfl) (by kernel_rfl) (by kernel_rfl) (by decide) (fun _ _ _ h => h) (Or.inl ⟨by rfl, ?hy35⟩) (KEEP.out _ X3.out) ?rest35
          case hy35 => intro W hSW; (try dsimp only at hSW); obtain ⟨e0, e1, e2⟩ := hSW; go_simp <;> with_reducible rfl
          try simp only [Act.put, lsa, lsb, lsc]
          refine EG_take 15 (v := ?v36) (by simp only [lga, lgb, lgc]; rfl) (by kernel_rfl) (by kernel_rfl) (by decide) (fun _ _ _ h => h) (Or.inl ⟨by rfl, ?hy36⟩) (KEEP.out _ X3.out) ?rest36
          case hy36 => intro W hSW; (try dsimp only at hSW); obtain ⟨e0, e1, e2⟩ := hSW; go_simp <;> with_reducible rfl
          try simp only [Act.put, lsa, lsb, lsc]
          refine EG_take 16 (v := ?v37) (by simp only [lga, lgb, lgc]; rfl) (by kernel_rfl) (by kernel_rfl) (by decide) (fun _ _ _ h => h) (Or.inl ⟨by rfl, ?hy37⟩) (KEEP.out _ X3.out) ?rest37
          case hy37 => intro W hSW; (try dsimp only at hSW); obtain ⟨e0, e1, e2⟩ := hSW; go_simp <;> with_reducible rfl
          try simp only [Act.put, lsa, lsb, lsc]
          refine EG_take 17 (v := ?v38) (by simp only [lga, lgb, lgc]; rfl) (by kernel_rfl) (by kernel_rfl) (by decide) (fun _ _ _ h => h) (Or.inl ⟨by rfl, ?hy38⟩) (KEEP.out _ X3.out) ?rest38
          case hy38 => intro W hSW; (try dsimp only at hSW); obtain ⟨e0, e1, e2⟩ := hSW; go_simp <;> with_reducible rfl
          try simp only [Act.put, lsa, lsb, lsc]
          refine EG_take 18 (v := ?v39) (by simp only [lga, lgb, lgc]; rfl) (by kernel_rfl) (by kernel_rfl) (by decide) (fun _ _ _ h => h) (Or.inl ⟨by rfl, ?hy39⟩) (KEEP.out _ X3.out) ?rest39
          case hy39 => intro W hSW; (try dsimp only at hSW); obtain ⟨e0, e1, e2⟩ := hSW; go_simp <;> with_reducible rfl
          try simp only [Act.put, lsa, lsb, lsc]
          refine EG_take 19 (v := ?v40) (by simp only [lga, lgb, lgc]; rfl) (by kernel_rfl) (by kernel_rfl) (by decide) (fun _ _ _ h => h) (Or.inl ⟨by rfl, ?hy40⟩) (KEEP.out _ X3.out) ?rest40
          case hy40 => intro W hSW; (try dsimp only at hSW); obtain ⟨e0, e1, e2⟩ := hSW; go_simp <;> with_reducible rfl
          try simp only [Act.put, lsa, lsb, lsc]
          refine EG_take 20 (v := ?v41) (by simp only [lga, lgb, lgc]; rfl) (by kernel_rfl) (by kernel_rfl) (by decide) (fun _ _ _ h => h) (Or.inl ⟨by rfl, ?hy41⟩) (KEEP.out _ X3.out) ?rest41
          case hy41 => intro W hSW; (try dsimp only at hSW); obtain ⟨e0, e1, e2⟩ := hSW; go_simp <;> with_reducible rfl
          try simp only [Act.put, lsa, lsb, lsc]
          refine EG_take 21 (v := ?v42) (by simp only [lga, lgb, lgc]; rfl) (by kernel_rfl) (by kernel_rfl) (by decide) (fun _ _ _ h => h) (Or.inl ⟨by rfl, ?hy42⟩) (KEEP.out _ X3.out) ?rest42
          case hy42 => intro W hSW; (try dsimp only at hSW); obtain ⟨e0, e1, e2⟩ := hSW; go_simp <;> with_reducible rfl
          try simp only [Act.put, lsa, lsb, lsc]
          refine EG_end (by kernel_rfl) (by simp only [lga, lgb, lgc]; rfl) ?_
          intro K hK0
          have hK := hid hK0
          clear hK0
          go_simp
          refine hK.out _ _ ?_
          clear hK K
          refine NoPanic.normal ?_
          have REL2 := hid (REL.out _ X3.out)
          go_wp2_with fail
          go_roundw
          case rel => exact REL2.out
          case measure => simp [intOf]; omega
      · have q1 : (tn == low) = false := by simpa using hnm
        have REL : Hid (∀ W, Ext wr W → AtRel w T low kind (.int .i64 ((j : Int) + 1)) W) := hid (fun W y => ⟨j + 1, by rw [HM.out]; exact hlt, by go_num, fun i hi => by
          rcases Nat.lt_succ_iff_lt_or_eq.1 hi with h | rfl
          · exact HNO.out i h
          · rw [HTE.out]; unfold hitT; rw [HTN.out, HTK.out]; simp [hnm], ext_trans HX.out y⟩)
        clear hnm
        refine wp_region_noPanic ?_
        refine region_E (S := fun W => W.cell? ⟨g, 1, none⟩ = some (.slice (some ⟨b, o, none⟩) m c) ∧ W.cell? ⟨b, o + j * 10, none⟩ = some (.string (str tn)) ∧ W.cell? ⟨b, o + j * 10 + 1, none⟩ = some (.int .i64 tk)) 22 (by kernel_rfl) (by kernel_rfl) (by kernel_rfl) ?_
        refine EG_take 0 (v := ?v43) (by simp only [lga, lgb, lgc]; rfl) (by kernel_rfl) (by kernel_rfl) (by decide) (fun _ _ _ h => h) (Or.inl ⟨by rfl, ?hy43⟩) (KEEP.out _ (ext_drew _)) ?rest43
        case hy43 => intro W hSW; (try dsimp only at hSW); obtain ⟨e0, e1, e2⟩ := hSW; go_simp <;> with_reducible rfl
        try simp only [Act.put, lsa, lsb, lsc]
        refine EG_take 1 (v := ?v44) (by simp only [lga, lgb, lgc]; rfl) (by kernel_rfl) (by kernel_rfl) (by decide) (fun _ _ _ h => h) (Or.inl ⟨by rfl, ?hy44⟩) (KEEP.out _ (ext_drew _)) ?rest44
        case hy44 => intro W hSW; (try dsimp only at hSW); obtain ⟨e0, e1, e2⟩ := hSW; go_simp <;> with_reducible rfl
        try simp only [Act.put, lsa, lsb, lsc]
        refine EG_take 2 (v := ?v45) (by simp only [lga, lgb, lgc]; rfl) (by kernel_rfl) (by kernel_rfl) (by decide) (fun _ _ _ h => h) (Or.inl ⟨by rfl, ?hy45⟩) (KEEP.out _ (ext_drew _)) ?rest45
        case hy45 => intro W hSW; (try dsimp only at hSW); obtain ⟨e0, e1, e2⟩ := hSW; go_simp <;> with_reducible rfl
        try simp only [Act.put, lsa, lsb, lsc]
        refine EG_take 3 (v := ?v46) (by simp only [lga, lgb, lgc]; rfl) (by kernel_rfl) (by kernel_rfl) (by decide) (fun _ _ _ h => h) (Or.inl ⟨by rfl, ?hy46⟩) (KEEP.out _ (ext_drew _)) ?rest46
        case hy46 => intro W hSW; (try dsimp only at hSW); obtain ⟨e0, e1, e2⟩ := hSW; go_simp <;> with_reducible rfl
        try simp only [Act.put, lsa, lsb, lsc]
        refine EG_take 4 (v := ?v47) (by simp only [lga, lgb, lgc]; rfl) (by kernel_rfl) (by kernel_rfl) (by decide) (fun _ _ _ h => h) (Or.inl ⟨by rfl, ?hy47⟩) (KEEP.out _ (ext_drew _)) ?rest47
        case hy47 => intro W hSW; (try dsimp only at hSW); obtain ⟨e0, e1, e2⟩ := hSW; go_simp <;> with_reducible rfl
        try simp only [Act.put, lsa, lsb, lsc]
        refine EG_take 5 (v := ?v48) (by simp only [lga, lgb, lgc]; rfl) (by kernel_rfl) (by kernel_rfl) (by decide) (fun _ _ _ h => h) (Or.inl ⟨by rfl, ?hy48⟩) (KEEP.out _ (ext_drew _)) ?rest48
        case hy48 => intro W hSW; (try dsimp only at hSW); obtain ⟨e0, e1, e2⟩ := hSW; go_simp <;> with_reducible rfl
        try simp only [Act.put, lsa, lsb, lsc]
        refine EG_take 6 (v := ?v49) (by simp only [lga, lgb, lgc]; rfl) (by kernel_rfl) (by kernel_rfl) (by decide) (fun _ _ _ h => h) (Or.inl ⟨by rfl, ?hy49⟩) (KEEP.out _ (ext_drew _)) ?rest49
        case hy49 => intro W hSW; (try dsimp only at hSW); obtain ⟨e0, e1, e2⟩ := hSW; go_simp <;> with_reducible rfl
        try simp only [Act.put, lsa, lsb, lsc]
        refine EG_take 7 (v := ?v50) (by simp only [lga, lgb, lgc]; rfl) (by kernel_rfl) (by kernel_rfl) (by decide) (fun _ _ _ h => h) (Or.inl ⟨by rfl, ?hy50⟩) (KEEP.out _ (ext_drew _)) ?rest50
        case hy50 => intro W hSW; (try dsimp only at hSW); obtain ⟨e0, e1, e2⟩ := hSW; go_simp <;> with_reducible rfl
        try simp only [Act.put, lsa, lsb, lsc]
        refine EG_take 8 (v := ?v51) (by simp only [lga, lgb, lgc]; rfl) (by kernel_rfl) (by kernel_rfl) (by decide) (fun _ _ _ h => h) (Or.inl ⟨by rfl, ?hy51⟩) (KEEP.out _ (ext_drew _)) ?rest51
        case hy51 => intro W hSW; (try dsimp only at hSW); obtain ⟨e0, e1, e2⟩ := hSW; go_simp <;> with_reducible rfl
        try simp only [Act.put, lsa, lsb, lsc]
        refine EG_one 9 (by kernel_rfl) (by simp only [lga, lgb, lgc]; rfl) (by decide) ?_
        intro K hK0
        have hK := hid hK0
        clear hK0
        go_simp
        refine (CLO.out _).mono ?_
        rintro e w3 ⟨rfl, x3⟩
        have X3 : Hid (Ext wr w3) := hid (ext_trans (ext_drew _) x3)
        clear x3
        go_simp
        refine hK.out _ _ (KEEP.out _ X3.out) ?_
        clear hK K
        try simp only [Act.put, lsa, lsb, lsc]
        refine EG_take 10 (v := ?v52) (by simp only [lga, lgb, lgc]; rfl) (by kernel_rfl) (by kernel_rfl) (by decide) (fun _ _ _ h => h) (Or.inl ⟨by rfl, ?hy52⟩) (KEEP.out _ X3.out) ?rest52
        case hy52 => intro W hSW; (try dsimp only at hSW); obtain ⟨e0, e1, e2⟩ := hSW; go_simp <;> with_reducible rfl
        try simp only [Act.put, lsa, lsb, lsc]
        refine EG_take 11 (v := ?v53) (by simp only [lga, lgb, lgc]; rfl) (by kernel_rfl) (by kernel_rfl) (by decide) (fun _ _ _ h => h) (Or.inl ⟨by rfl, ?hy53⟩) (KEEP.out _ X3.out) ?rest53
        case hy53 => intro W hSW; (try dsimp only at hSW); obtain ⟨e0, e1, e2⟩ := hSW; go_simp <;> with_reducible rfl
        try simp only [Act.put, lsa, lsb, lsc]
        refine EG_take 12 (v := undef) (by simp only [lga, lgb, lgc]; rfl) (by kernel_rfl) (by kernel_rfl) (by decide) (fun _ _ _ h => h) (Or.inr ⟨by rfl, rfl⟩) (KEEP.out _ X3.out) ?rest54
        try simp only [Act.put, lsa, lsb, lsc]
        refine EG_take 13 (v := undef) (by simp only [lga, lgb, lgc]; rfl) (by kernel_rfl) (by kernel_rfl) (by decide) (fun _ _ _ h => h) (Or.inr ⟨by rfl, rfl⟩) (KEEP.out _ X3.out) ?rest55
        try simp only [Act.put, lsa, lsb, lsc]
        refine EG_take 14 (v := undef) (by simp only [lga, lgb, lgc]; rfl) (by kernel_rfl) (by kernel_rfl) (by decide) (fun _ _ _ h => h) (Or.inr ⟨by rfl, rfl⟩) (KEEP.out _ X3.out) ?rest56
        try simp only [Act.put, lsa, lsb, lsc]
        refine EG_take 15 (v := undef) (by simp only [lga, lgb, lgc]; rfl) (by kernel_rfl) (by kernel_rfl) (by decide) (fun _ _ _ h => h) (Or.inr ⟨by rfl, rfl⟩) (KEEP.out _ X3.out) ?rest57
        try simp only [Act.put, lsa, lsb, lsc]
        refine EG_take 16 (v := undef) (by simp only [lga, lgb, lgc]; rfl) (by kernel_rfl) (by kernel_rfl) (by decide) (fun _ _ _ h => h) (Or.inr ⟨by rfl, rfl⟩) (KEEP.out _ X3.out) ?rest58
        try simp only [Act.put, lsa, lsb, lsc]
        refine EG_take 17 (v := undef) (by simp only [lga, lgb, lgc]; rfl) (by kernel_rfl) (by kernel_rfl) (by decide) (fun _ _ _ h => h) (Or.inr ⟨by rfl, rfl⟩) (KEEP.out _ X3.out) ?rest59
        try simp only [Act.put, lsa, lsb, lsc]
        refine EG_take 18 (v := undef) (by simp only [lga, lgb, lgc]; rfl) (by kernel_rfl) (by kernel_rfl) (by decide) (fun _ _ _ h => h) (Or.inr ⟨by rfl, rfl⟩) (KEEP.out _ X3.out) ?rest60
        try simp only [Act.put, lsa, lsb, lsc]
        refine EG_take 19 (v := undef) (by simp only [lga, lgb, lgc]; rfl) (by kernel_rfl) (by kernel_rfl) (by decide) (fun _ _ _ h => h) (Or.inr ⟨by rfl, rfl⟩) (KEEP.out _ X3.out) ?rest61
        try simp only [Act.put, lsa, lsb, lsc]
        refine EG_take 20 (v := undef) (by simp only [lga, lgb, lgc]; rfl) (by kernel_rfl) (by kernel_rfl) (by decide) (fun _ _ _ h => h) (Or.inr ⟨by rfl, rfl⟩) (KEEP.out _ X3.out) ?rest62
        try simp only [Act.put, lsa, lsb, lsc]
        refine EG_take 21 (v := undef) (by simp only [lga, lgb, lgc]; rfl) (by kernel_rfl) (by kernel_rfl) (by decide) (fun _ _ _ h => h) (Or.inr ⟨by rfl, rfl⟩) (KEEP.out _ X3.out) ?rest63
        try simp only [Act.put, lsa, lsb, lsc]
        refine EG_end (by kernel_rfl) (by simp only [lga, lgb, lgc]; rfl) ?_
        intro K hK0
        have hK := hid hK0
        clear hK0
        go_simp
        refine hK.out _ _ ?_
        clear hK K
        refine NoPanic.normal ?_
        have REL2 := hid (REL.out _ X3.out)
        go_wp2_with fail
        go_roundw
        case rel => exact REL2.out
        case measure => simp [intOf]; omega
    · obtain rfl : j = m := by omega
      have F : V = -1 := by rw [← HV.out, idxT_none (by rw [HM.out]; exact hno)]; rfl
      have F := hid F
      have HX := hid hx
      clear hno hx
      go_wp2_with fail
      go_ret
      exact ⟨ret_int F.out.symm, HX.out⟩
end
end Go.Proofs.Ytcddfenhkljpeaa

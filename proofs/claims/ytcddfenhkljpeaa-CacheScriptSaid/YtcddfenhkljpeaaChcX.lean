import Derived.Test.YtcddfenhkljpeaaChcF
/- Layer 23: a list of calls in memory; LongSet, Long. -/
namespace Go.BK.CH
structure ActS where
  kind : Int
  now : Int
  rank : Int
  type : Int
  ttl : Int
  nm : List UInt8
  s : SetS
structure Am where
  a : ActS
  A : Option Addr
  d : Nat
def longSet (s : SetS) (most : Nat) : Bool := decide (most < s.data.length) || decide (2000 < s.nm.length + (s.data.map List.length).sum)
def longA (a : ActS) : Bool := longSet a.s 70 || decide (2000 < a.nm.length)
def longL (M : List Am) : Bool := M.any (fun m => longA m.a) || decide (80 < M.length)
end Go.BK.CH
namespace Go.Proofs.Ytcddfenhkljpeaa
open Go.BK Go.BK.CH Go.BK.NM Go.RowKit Go.Maps
set_option linter.unusedVariables false
set_option linter.unusedSimpArgs false
abbrev i64R (n : Int) : Prop := -9223372036854775808 ≤ n ∧ n ≤ 9223372036854775807
structure WfS (s : SetS) : Prop where
  ty : i64R s.ty
  cl : i64R s.cl
  ttl : i64R s.ttl
  nm : s.nm.length ≤ 140737488351232
  data : ∀ t ∈ s.data, t.length ≤ 140737488351232
structure WfA (a : ActS) : Prop where
  kind : i64R a.kind
  now : i64R a.now
  rank : i64R a.rank
  type : i64R a.type
  ttl : i64R a.ttl
  nm : a.nm.length ≤ 140737488351232
  s : WfS a.s
def cellsA (m : Am) : List Value := [.int .i64 m.a.kind, .int .i64 m.a.now, .int .i64 m.a.rank, .int .i64 m.a.type, .int .i64 m.a.ttl, .string (str m.a.nm),
  .string (str m.a.s.nm), .int .i64 m.a.s.ty, .int .i64 m.a.s.cl, .int .i64 m.a.s.ttl, .slice m.A m.a.s.data.length m.d]
def cellsM (M : List Am) : List Value := M.flatMap cellsA
def am0 : Am := ⟨⟨0, 0, 0, 0, 0, [], ⟨[], 0, 0, 0, []⟩⟩, none, 0⟩
theorem cellsM_len (M : List Am) : (cellsM M).length = M.length * 11 := by
  induction M with
  | nil => rfl
  | cons m M ih =>
    have : cellsM (m :: M) = cellsA m ++ cellsM M := by simp [cellsM]
    rw [this, List.length_append, ih]
    simp [cellsA]
    omega
theorem cellsM_at (M : List Am) (j i : Nat) (u : Value) (hj : j < M.length) (hu : (cellsA (M.getD j am0))[i]? = some u) : (cellsM M)[j * 11 + i]? = some u := by
  induction M generalizing j with
  | nil => simp at hj
  | cons m M ih =>
    have e : cellsM (m :: M) = cellsA m ++ cellsM M := by simp [cellsM]
    have hl : (cellsA m).length = 11 := rfl
    rw [e]
    cases j with
    | zero =>
      have hi : i < 11 := (List.getElem?_eq_some_iff.1 hu).1
      rw [List.getElem?_append_left (by rw [hl]; omega)]
      simpa using hu
    | succ j =>
      rw [List.getElem?_append_right (by rw [hl]; omega), hl, show (j + 1) * 11 + i - 11 = j * 11 + i from by omega]
      exact ih j (by simpa using hj) (by simpa using hu)
/-- A list of calls that came in. -/
def ActR (w : World) (A : Option Addr) (c : Nat) (M : List Am) : Prop := RdG w 11 A M.length c (cellsM M) ∧ ∀ m ∈ M, WfA m.a ∧ RdT w m.A m.d m.a.s.data
section
variable {w w' : World} {A : Option Addr} {c : Nat} {M : List Am}
theorem rdT_ext {L : List (List UInt8)} (h : RdT w A c L) (x : Ext w w') : RdT w' A c L := ⟨h.1.ext x, h.2⟩
theorem ActR.ext (h : ActR w A c M) (x : Ext w w') : ActR w' A c M := ⟨h.1.ext x, fun m hm => ⟨(h.2 m hm).1, rdT_ext (h.2 m hm).2 x⟩⟩
theorem ActR.at_ (h : ActR w A c M) (h0 : 0 < M.length) : ∃ b o, A = some ⟨b, o, none⟩ ∧ b < w.heap.size ∧ ∀ j, j < M.length → ∃ m, m ∈ M ∧ M.getD j am0 = m ∧ ∀ i u, (cellsA m)[i]? = some u → w.cell? ⟨b, o + j * 11 + i, none⟩ = some u := by
  obtain ⟨b, o, hA, hb, hc⟩ := h.1.2.2.2 h0
  refine ⟨b, o, hA, hb, fun j hj => ⟨M.getD j am0, by simp [List.getD, hj], rfl, fun i u hu => ?_⟩⟩
  rw [Nat.add_assoc]
  exact hc _ _ (cellsM_at M j i u hj hu)
end
def sumT (L : List (List UInt8)) : Nat := (L.map List.length).sum
theorem sumT_take_succ (L : List (List UInt8)) (k : Nat) (h : k < L.length) : sumT (L.take (k + 1)) = sumT (L.take k) + (L.getD k []).length := by
  unfold sumT
  rw [List.take_succ_eq_append_getElem h, List.map_append, List.sum_append]
  simp [h]
theorem sumT_take_le (L : List (List UInt8)) (k : Nat) : sumT (L.take k) ≤ sumT L := by
  unfold sumT
  conv => rhs; rw [← List.take_append_drop k L]
  rw [List.map_append, List.sum_append]
  omega
theorem dec_or (p : Prop) [Decidable p] : (p ∧ decide p = true) ∨ (¬ p ∧ decide p = false) := by
  by_cases h : p
  · exact .inl ⟨h, by simpa using h⟩
  · exact .inr ⟨h, by simpa using h⟩
def LsRel (w : World) (s : SetS) (nv iv : Value) (wr : World) : Prop :=
  ∃ k q : Nat, k ≤ s.data.length ∧ iv = .int .i64 k ∧ nv = .int .i64 q ∧ s.nm.length + sumT (s.data.take k) = q ∧ wr = w
set_option maxHeartbeats 2000000 in
set_option maxRecDepth 100000 in
theorem long_set {w : World} {s : SetS} {A : Option Addr} {d most : Nat} (hs : WfS s) (hr : RdT w A d s.data) (hm : most ≤ 1000) :
    Calls Try.prog 47 #[.agg #[.string (str s.nm), .int .i64 s.ty, .int .i64 s.cl, .int .i64 s.ttl, .slice A s.data.length d], .int .i64 most] w fun e w' => e = .returned (.bool (longSet s most)) ∧ Ext w w' := by
  obtain ⟨n, hn⟩ : ∃ n, s.data.length = n := ⟨_, rfl⟩
  obtain ⟨m, hm0⟩ : ∃ m, s.nm.length = m := ⟨_, rfl⟩
  have hnm := hs.nm
  rw [hm0] at hnm
  have HSD := hid hs.data
  have hnl := hr.1.n_le
  have HR0 := hid hr
  rw [hn] at hnl
  obtain ⟨sn, hsn⟩ : ∃ sn, str s.nm = sn := ⟨_, rfl⟩
  have hsz : sn.size = m := by rw [← hsn, str_size, hm0]
  rw [hn, hsn]
  have xb := ext_alloc w (.cells #[.string sn, .int .i64 s.ty, .int .i64 s.cl, .int .i64 s.ttl, .slice A n d] 30)
  have bb := Blk.new w 30 #[.string sn, .int .i64 s.ty, .int .i64 s.cl, .int .i64 s.ttl, .slice A n d]
  obtain ⟨wa, hwa⟩ : ∃ wa, w.alloc (.cells #[.string sn, .int .i64 s.ty, .int .i64 s.cl, .int .i64 s.ttl, .slice A n d] 30) = wa := ⟨_, rfl⟩
  obtain ⟨g, hg⟩ : ∃ g, w.heap.size = g := ⟨_, rfl⟩
  rw [hwa] at xb bb
  rw [hg] at bb
  have R2 := hid (rdT_ext hr xb)
  have l0 := bb.cell 0
  have l4 := bb.cell 4
  simp at l0 l4
  have XB := hid xb
  have HN := hid hn
  have HM0 := hid hm0
  have HWA := hid hwa
  have HG := hid hg
  clear hr xb bb hn hm0 hwa hg hs hsn
  go_enter Try.func47, Try.ntmps47
  go_upto_region 1 with (fail)
  rw [HWA.out, HG.out]
  go_wp2_with fail
  go_loopw [5, 6] (fun nv iv wr => LsRel wa s nv iv wr) (fun _ iv _ => n - (intOf iv).toNat)
  case atStart => exact ⟨0, m, Nat.zero_le _, rfl, rfl, by rw [HM0.out]; simp [sumT], rfl⟩
  case round =>
    obtain ⟨k, q, hk, rfl, rfl, hq, rfl⟩ := hrel
    rw [HN.out] at hk
    rw [HM0.out] at hq
    have hst := sumT_take_le s.data k
    have fin : ∀ b c : Bool, b = decide (most < n) → c = decide (2000 < q) → (k = n ∨ 2000 < q) → (b || c) = longSet s most := by
      rintro b c rfl rfl h
      unfold longSet
      rw [HN.out, HM0.out, show (s.data.map List.length).sum = sumT s.data from rfl]
      congr 1
      rcases h with h | h
      · have e : sumT (s.data.take k) = sumT s.data := by rw [h, ← HN.out, List.take_length]
        rw [← e, hq]
      · rw [decide_eq_true h, decide_eq_true (by omega)]
    have FIN := hid fin
    clear fin
    by_cases hgo : k < n ∧ q ≤ 2000
    · obtain ⟨hlt, hq2⟩ := hgo
      have i1 : (k : Int) < (n : Int) := by omega
      have i2 : (q : Int) ≤ 2000 := by omega
      obtain ⟨b, o, rfl, hb, hc⟩ := tvs_at R2.out.1 (k := k) (by rw [HN.out]; exact hlt)
      have hts := sumT_take_succ s.data k (by rw [HN.out]; exact hlt)
      have hxl := HSD.out (s.data.getD k []) (by simp [List.getD, HN.out, hlt])
      obtain ⟨x, hx⟩ : ∃ x, s.data.getD k [] = x := ⟨_, rfl⟩
      rw [hx] at hc hts hxl
      obtain ⟨z, hz⟩ : ∃ z, x.length = z := ⟨_, rfl⟩
      obtain ⟨sx, hsx⟩ : ∃ sx, str x = sx := ⟨_, rfl⟩
      have hsz2 : sx.size = z := by rw [← hsx, str_size, hz]
      rw [hsx] at hc
      rw [hz] at hts hxl
      have REL : LsRel wr s (.int .i64 ((q : Int) + (z : Int))) (.int .i64 ((k : Int) + 1)) wr := ⟨k + 1, q + z, by rw [HN.out]; exact hlt, by go_num, by go_num, by rw [HM0.out]; omega, rfl⟩
      have REL := hid REL
      have hzz : (0 : Int) ≤ (q : Int) + (z : Int) ∧ (q : Int) + (z : Int) ≤ 9223372036854775807 := by omega
      clear hts hx hz hsx hst hq
      go_wp2_with fail
      go_roundw
      case rel => exact REL.out
      case measure => simp [intOf]; omega
    · have h5 : k = n ∨ 2000 < q := by omega
      have H5 := hid h5
      rcases dec_or (most < n) with ⟨b1, b2⟩ | ⟨b1, b2⟩ <;> rcases dec_or ((k : Int) < (n : Int)) with ⟨a1, a2⟩ | ⟨a1, a2⟩ <;> rcases dec_or ((q : Int) ≤ 2000) with ⟨c1, c2⟩ | ⟨c1, c2⟩ <;> rcases dec_or ((2000 : Int) < (q : Int)) with ⟨d1, d2⟩ | ⟨d1, d2⟩
      all_goals first
        | (exfalso; omega)
        | (clear h5 hq hst
           have F := FIN.out _ _ rfl rfl H5.out
           have F1 : decide (2000 < q) = decide ((2000 : Int) < (q : Int)) := decide_eq_decide.2 (by omega)
           rw [F1, b2, d2] at F
           have F := hid F
           clear F1 hgo
           go_wp2_with fail
           go_ret
           exact ⟨ret_bool (by rw [← F.out]; rfl), XB.out⟩)

def LgRel (w : World) (M : List Am) (iv : Value) (wr : World) : Prop := ∃ k : Nat, k ≤ M.length ∧ iv = .int .i64 k ∧ (∀ j, j < k → longA (M.getD j am0).a = false) ∧ Ext w wr
theorem longL_yes {M : List Am} {m : Am} (h : m ∈ M) (hl : longA m.a = true) : longL M = true := by
  unfold longL
  rw [List.any_eq_true.2 ⟨m, h, hl⟩]
  rfl
theorem longL_no {M : List Am} (h : ∀ j, j < M.length → longA (M.getD j am0).a = false) : longL M = decide (80 < M.length) := by
  unfold longL
  rw [List.any_eq_false.2 (fun m hm => by
    obtain ⟨j, hj, rfl⟩ := List.getElem_of_mem hm
    have := h j hj
    rw [List.getD_eq_getElem?_getD, List.getElem?_eq_getElem hj] at this
    simpa using this)]
  rfl
set_option maxHeartbeats 4000000 in
set_option maxRecDepth 100000 in
theorem long_in {w : World} {A : Option Addr} {c : Nat} {M : List Am} (h : ActR w A c M) :
    Calls Try.prog 20 #[.slice A M.length c] w fun e w' => e = .returned (.bool (longL M)) ∧ Ext w w' := by
  obtain ⟨m, hm⟩ : ∃ m, M.length = m := ⟨_, rfl⟩
  have hmx := h.1.n_le
  rw [hm] at hmx ⊢
  obtain ⟨V, hV⟩ : ∃ V, longL M = V := ⟨_, rfl⟩
  rw [hV]
  have HV := hid hV
  have H := hid h
  have HM := hid hm
  clear h hm hV
  go_enter Try.func20, Try.ntmps20
  go_wp2_with fail
  go_loopw [3] (fun iv wr => LgRel w M iv wr) (fun iv _ => m - (intOf iv).toNat)
  case atStart => exact ⟨0, Nat.zero_le _, rfl, by omega, ext_refl _⟩
  case round =>
    obtain ⟨k, hk, rfl, hno, hx⟩ := hrel
    rw [HM.out] at hk
    by_cases hlt : k < m
    · have i1 : (k : Int) < (m : Int) := by omega
      obtain ⟨b, o, rfl, hb, hc⟩ := (H.out.ext hx).at_ (by rw [HM.out]; omega)
      obtain ⟨a, ham, hae, ha⟩ := hc k (by rw [HM.out]; exact hlt)
      obtain ⟨wf, rt⟩ := (H.out.ext hx).2 a ham
      have c5 := ha 5 _ rfl
      have c6 := ha 6 _ rfl
      have c7 := ha 7 _ rfl
      have c8 := ha 8 _ rfl
      have c9 := ha 9 _ rfl
      have c10 := ha 10 _ rfl
      have LS := long_set (most := 70) wf.s rt (by decide)
      obtain ⟨ls, hls⟩ : ∃ ls, longSet a.a.s 70 = ls := ⟨_, rfl⟩
      rw [hls] at LS
      obtain ⟨sn, hsn⟩ : ∃ sn, str a.a.nm = sn := ⟨_, rfl⟩
      obtain ⟨z, hz⟩ : ∃ z, a.a.nm.length = z := ⟨_, rfl⟩
      have hsz : sn.size = z := by rw [← hsn, str_size, hz]
      rw [hsn] at c5
      have hzx := wf.nm
      rw [hz] at hzx
      have LA : longA a.a = (ls || decide (2000 < z)) := by unfold longA; rw [hls, hz]
      have LS := hid LS
      have KEEP : Hid (∀ W, Ext wr W → W.cell? ⟨b, o + k * 11 + 5, none⟩ = some (.string sn)) := hid (fun W x => (x.cell (p := ⟨b, o + k * 11 + 5, none⟩) hb).trans c5)
      have HX := hid hx
      have HNO := hid hno
      have HLA := hid LA
      have HAM := hid ham
      have HAE := hid hae
      clear ha hc hx hno hls hsn hz c5 wf rt LA ham hae
      go_wp2_with fail
      refine LS.out.mono ?_
      rintro e w2 ⟨rfl, x2⟩
      have c5 := KEEP.out _ x2
      have X2 := hid (ext_trans HX.out x2)
      clear x2 LS KEEP c6 c7 c8 c9 c10
      cases ls with
      | true =>
        have F : V = true := by rw [← HV.out]; exact longL_yes HAM.out (by rw [HLA.out]; rfl)
        have F := hid F
        go_wp2_with fail
        go_ret
        exact ⟨ret_bool F.out.symm, X2.out⟩
      | false =>
        rcases dec_or ((2000 : Int) < (z : Int)) with ⟨a1, a2⟩ | ⟨a1, a2⟩
        · have F : V = true := by rw [← HV.out]; exact longL_yes HAM.out (by rw [HLA.out]; simp; omega)
          have F := hid F
          go_wp2_with fail
          go_ret
          exact ⟨ret_bool F.out.symm, X2.out⟩
        · have REL : LgRel w M (.int .i64 ((k : Int) + 1)) w2 := ⟨k + 1, by rw [HM.out]; exact hlt, by go_num, fun j hj => by
            rcases Nat.lt_succ_iff_lt_or_eq.1 hj with h | rfl
            · exact HNO.out j h
            · rw [HAE.out, HLA.out]; simp; omega, X2.out⟩
          have REL := hid REL
          go_wp2_with fail
          go_roundw
          case rel => exact REL.out
          case measure => simp [intOf]; omega
    · obtain rfl : k = m := by omega
      have F := longL_no (M := M) (by rw [HM.out]; exact hno)
      rw [HV.out, HM.out] at F
      have F := hid F
      have HX := hid hx
      clear hno hx
      rcases dec_or ((80 : Int) < (k : Int)) with ⟨a1, a2⟩ | ⟨a1, a2⟩
      all_goals
        go_wp2_with fail
        go_ret
        exact ⟨ret_bool (by (try rw [F.out]); simp; omega), HX.out⟩
end Go.Proofs.Ytcddfenhkljpeaa

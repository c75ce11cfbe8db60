/- Layer 21: Put. -/
import Derived.Test.YtkogagpahidenaaDrrC
namespace Go.Proofs.Ytkogagpahidenaa
open Go.BK Go.BK.DR Go.RowKit Go.Maps
set_option linter.unusedVariables false
section
variable {w : World} {g lb mb : Nat} {p : Par} {R R1 R2 : List Row} {r : Row} {t : Bool} {n : Int}
set_option maxHeartbeats 1000000 in
theorem put_bad (h : QR w g lb mb p R t n) (a cost x : Int) (hc : cost < 1 ∨ p.most < cost) : Calls Try.prog 12 #[.pointer (some ⟨g, 0, none⟩), .int .i64 a, .int .i64 cost, .int .i64 x] w fun e w' => e = .returned (.int .i64 5) ∧ w = w' := by
  obtain ⟨_, _, _, c3, _, _, _, _, cf⟩ := h.cells
  have C := hid (none_no h)
  clear h
  rcases (show cost < 1 ∨ ¬ cost < 1 ∧ p.most < cost by omega) with h1 | ⟨h1, h2⟩
  all_goals
    clear hc
    go_enter Try.func12, Try.ntmps12
    go_wp2_with fail
    refine C.out.mono ?_
    rintro e _ ⟨rfl, rfl⟩
    go_wp2
    go_ret
    exact ⟨rfl, rfl⟩
set_option maxHeartbeats 1000000 in
set_option maxRecDepth 100000 in
theorem put_many (h : QR w g lb mb p R t n) (a cost x : Int) (ha : wfI a) (hno : ∀ r ∈ R, r.cl.n ≠ a) (hc : 1 ≤ cost ∧ cost ≤ p.most) (hl : p.clients ≤ (R.length : Int)) : Calls Try.prog 12 #[.pointer (some ⟨g, 0, none⟩), .int .i64 a, .int .i64 cost, .int .i64 x] w fun e w' => e = .returned (.int .i64 8) ∧ ∃ nq, w' = w.drewN nq := by
  obtain ⟨c0, _, _, c3, c4, c5, _, _, cf⟩ := h.cells
  have hlk := h.look ha
  rw [tab_no h.dn hno] at hlk
  simp only [Option.getD_none, Option.isSome_none] at hlk
  have C := hid (none_no h)
  have CL := fun nq => chain_len (h.ring.ext (ext_drewN w nq))
  simp only [List.length_map, pt] at CL
  have CL := hid CL
  have h1 : ¬ cost < 1 := by omega
  have h2 : ¬ p.most < cost := by omega
  clear h hc hno
  go_enter Try.func12, Try.ntmps12
  go_wp2_with fail
  refine C.out.mono ?_
  rintro e _ ⟨rfl, rfl⟩
  go_wp2_with fail
  go_quiet ((go_at_call 32; exact quiet_sym (CL.out _)))
  go_wp2
  go_ret
  exact ⟨rfl, _, rfl⟩
set_option maxHeartbeats 1000000 in
set_option maxRecDepth 100000 in
theorem put_full (h : QR w g lb mb p R t n) (hr : r ∈ R) (cost x : Int) (hc : 1 ≤ cost ∧ cost ≤ p.most) (hl : p.items ≤ (r.cl.L.length : Int)) : Calls Try.prog 12 #[.pointer (some ⟨g, 0, none⟩), .int .i64 r.cl.n, .int .i64 cost, .int .i64 x] w fun e w' => e = .returned (.int .i64 8) ∧ ∃ nq, w' = w.drewN nq := by
  obtain ⟨_, c1, _, c3, c4, c5, _, _, cf⟩ := h.cells
  obtain ⟨_, _, d2, df⟩ := h.ccells hr
  have hlk := h.look (h.wf r hr)
  rw [tab_at h.dn hr] at hlk
  simp only [Option.getD_some, Option.isSome_some, pt] at hlk
  have C := hid (none_no h)
  have C2 := hid (of_row h hr)
  have h1 : ¬ cost < 1 := by omega
  have h2 : ¬ p.most < cost := by omega
  have hn := (h.own r hr).rd.n_le
  clear h hc
  go_enter Try.func12, Try.ntmps12
  go_wp2_with fail
  refine C.out.mono ?_
  rintro e _ ⟨rfl, rfl⟩
  go_wp2_with fail
  refine C2.out.mono ?_
  rintro e _ ⟨rfl, rfl⟩
  go_wp2_with fail
  go_quiet (fail)
  go_wp2
  go_ret
  exact ⟨rfl, _, rfl⟩
theorem cellsI_snoc (L : List (Int × Int)) (x : Int × Int) : cellsI L ++ [.int .i64 x.1, .int .i64 x.2] = cellsI (L ++ [x]) := by simp [cellsI]
theorem rd_two (w : World) (a b : Value) (e : TypeId) : RdG (w.alloc (.cells #[a, b] e)) 2 (some ⟨w.heap.size, 0, none⟩) 1 1 [a, b] := by
  refine ⟨rfl, Nat.le_refl _, by simp [maxLen], fun _ => ⟨w.heap.size, 0, rfl, by simp, fun j u hj => ?_⟩⟩
  rcases j with _ | _ | j
  · simp at hj; subst hj; simp
  · simp at hj; subst hj; simp
  · simp at hj
/-- An item has been laid behind a client's others. -/
theorem QR.item (h : QR w g lb mb p (R1 ++ r :: R2) t n) (cost x : Int) {A' : Option Addr} {c' : Nat} {w1 w2 : World} (h1 : w.grownBy w1 (blk r.A)) (ho : OwnO isOne w1 66 2 A' (r.cl.L.length + 1) c' (cellsI r.cl.L ++ [.int .i64 cost, .int .i64 x]))
    (hA : A' = r.A ∨ ∃ b, blk A' = some b ∧ w.heap.size ≤ b) (h2 : w2 = (w1.setCell ⟨r.c, 2, none⟩ (.slice A' (r.cl.L.length + 1) c')).setCell ⟨g, 7, none⟩ (.int .i64 (n + 1))) :
    QR w2 g lb mb p (R1 ++ ⟨⟨r.cl.n, r.cl.cr, r.cl.L ++ [(cost, x)]⟩, r.e, r.c, A', c'⟩ :: R2) t (n + 1) ∧ Shy (ownsQ g lb mb (R1 ++ r :: R2)) w w2 := by
  subst h2
  have hr : r ∈ R1 ++ r :: R2 := by simp
  have s1 : Shy (fun k => blk r.A = some k) w w1 := shy_of_grown h1
  have s2 : Shy (fun k => k = r.c ∨ blk r.A = some k) w (w1.setCell ⟨r.c, 2, none⟩ (.slice A' (r.cl.L.length + 1) c')) := (s1.mono fun k _ e => .inr e).set (fun _ => .inl rfl) 2 _
  have b1 := ((h.cl r hr).shy s1 (h.row_other hr hr).2.2).set_ 2 (.slice A' (r.cl.L.length + 1) c')
  have o1 : OwnO isOne (w1.setCell ⟨r.c, 2, none⟩ (.slice A' (r.cl.L.length + 1) c')) 66 2 A' (r.cl.L.length + 1) c' (cellsI r.cl.L ++ [.int .i64 cost, .int .i64 x]) := by
    refine OwnO.shy (set_shy r.c 2 _ w1) ho fun k hk e => ?_
    subst e
    exact ho.blk_ne ((h.cl r hr).shy s1 (h.row_other hr hr).2.2) (by decide) hk
  have e1 : (r.cl.L ++ [(cost, x)]).length = r.cl.L.length + 1 := by simp
  have q := h.row r.cl.cr (r.cl.L ++ [(cost, x)]) A' c' s2 (by rw [e1]; simpa using b1) (by rw [e1, ← cellsI_snoc]; exact o1) (by
    rcases hA with hA | hA
    · exact .inl (by rw [hA])
    · exact .inr hA)
  refine ⟨q.set_n (n + 1), ?_⟩
  refine (s2.mono fun k _ e => ?_).set (fun _ => .inl rfl) 7 _
  rcases e with e | e
  · exact .inr (.inr (.inr ⟨r, hr, .inr (.inl e)⟩))
  · exact .inr (.inr (.inr ⟨r, hr, .inr (.inr e)⟩))
set_option maxHeartbeats 4000000 in
set_option maxRecDepth 100000 in
theorem put_more (h : QR w g lb mb p (R1 ++ r :: R2) t n) (cost x : Int) (hc : 1 ≤ cost ∧ cost ≤ p.most) (hl : (r.cl.L.length : Int) < p.items) (hp : p.items ≤ 64) (hn : 0 ≤ n ∧ n ≤ 1000000) :
    Calls Try.prog 12 #[.pointer (some ⟨g, 0, none⟩), .int .i64 r.cl.n, .int .i64 cost, .int .i64 x] w fun e w' => ∃ A' c', e = .returned (.int .i64 0) ∧ QR w' g lb mb p (R1 ++ ⟨⟨r.cl.n, r.cl.cr, r.cl.L ++ [(cost, x)]⟩, r.e, r.c, A', c'⟩ :: R2) t (n + 1) ∧
      (blk A' = blk r.A ∨ ∃ b, blk A' = some b ∧ w.heap.size ≤ b) ∧ Shy (ownsQ g lb mb (R1 ++ r :: R2)) w w' := by
  obtain ⟨_, c1, _, c3, c4, c5, _, _, cf⟩ := h.cells
  have hr : r ∈ R1 ++ r :: R2 := by simp
  obtain ⟨_, _, d2, df⟩ := h.ccells hr
  have hlk := h.look (h.wf r hr)
  rw [tab_at h.dn hr] at hlk
  simp only [Option.getD_some, Option.isSome_some, pt] at hlk
  have C := hid (none_no h)
  have C2 := hid (of_row h hr)
  have h1 : ¬ cost < 1 := by omega
  have h2 : ¬ p.most < cost := by omega
  have h3 : ¬ p.items ≤ (r.cl.L.length : Int) := by omega
  obtain ⟨i0, hi, hz0, hz1, hz2⟩ := info_parts info_item
  have Q := hid h
  clear h hc
  go_enter Try.func12, Try.ntmps12
  go_wp2_with fail
  refine C.out.mono ?_
  rintro e _ ⟨rfl, rfl⟩
  go_wp2_with fail
  refine C2.out.mono ?_
  rintro e _ ⟨rfl, rfl⟩
  go_wp2_with fail
  go_quiet (fail)
  generalize hw2 : World.drewN w _ = w2
  have x2 : Ext w w2 := by rw [← hw2]; exact ext_drewN _ _
  have Q2 := hid (Q.out.ext x2)
  have ho2 := OwnO.shy (U := fun _ => False) (Shy.of_ext (ext_trans x2 (ext_alloc w2 (.cells #[.int .i64 cost, .int .i64 x] 66)))) (Q.out.own _ hr) (fun _ _ e => e)
  obtain ⟨_, _, dd2, ddf⟩ := Q2.out.ccells hr
  have gf2 := Q2.out.top.frozen
  have g72 := Q2.out.top.cell 7
  simp at g72
  have kcg : ¬ r.c = g := ((Q2.out.g_other.2.2 _ hr).2.1).symm
  have kgc : ¬ g = r.c := (Q2.out.g_other.2.2 _ hr).2.1
  have hlt9 := Q2.out.lt
  have hAc : blk r.A ≠ some r.c := (Q2.out.row_other hr hr).2.2
  have hAg : blk r.A ≠ some g := (Q2.out.g_other.2.2 _ hr).2.2
  have HLT := hid hlt9
  have HW2 := hid hw2
  have X2 := hid x2
  clear hw2 x2 hlt9
  clear c1 c3 c4 c5 cf d2 df hlk
  go_wp2_with (at_builtin; go_must (refine wpList_append_o rfl (.tmp 78) (.tmp 82) 61 rfl 66 i0 (.agg #[.int .i64 0, .int .i64 0]) 2 16 Try.underlying61 hi hz0 hz1 hz2 rfl (by decide) (by intro u hu; simp [Value.cells] at hu; subst hu; exact rfl) (fun _ h => h) rfl ho2 rfl (rd_two w2 _ _ _) (by intro u hu; simp at hu; rcases hu with rfl | rfl <;> exact rfl) (by decide) (by omega) (by unfold maxLen; omega) ?_); intro A5 c5 w5 o5 g5 n5; have e5 := ext_alloc w2 (.cells #[.int .i64 cost, .int .i64 x] 66); have d5 := (((Q2.out.cl _ hr).ext e5).grown g5 (fun h => hAc h.symm)); have d5 := hid d5; have df5 := d5.out.frozen; have t5 := (Q2.out.top.ext e5).grown g5 (fun h => hAg h.symm); have t57 := t5.cell 7; have tf5 := t5.frozen; have d52 := d5.out.cell 2; simp at t57 d52; have G5 := hid (grown_trans (grown_of_ext e5 _) g5); have O5 := hid o5; have N5 := hid n5; clear o5 g5 n5 e5 t5 ho2 dd2 ddf gf2 g72)
  go_ret
  have X := X2.out
  obtain ⟨q, s⟩ := Q2.out.item cost x G5.out O5.out (by
    rcases N5.out with h | h
    · exact .inl h
    · exact .inr ⟨_, by rw [h]; rfl, by simp⟩) rfl
  refine ⟨A5, c5, rfl, q, ?_, (Shy.of_ext X).trans s fun _ _ h => h⟩
  rcases N5.out with h | h
  · exact .inl (by rw [h])
  · exact .inr ⟨_, by rw [h]; rfl, by have := X.size; simp; omega⟩
def PutNew (w w' : World) (g lb mb : Nat) (p : Par) (R : List Row) (t : Bool) (n a cost x : Int) : Prop :=
  ∃ e c A' c', QR w' g lb mb p (R ++ [⟨⟨a, 0, [(cost, x)]⟩, e, c, A', c'⟩]) t (n + 1) ∧ w.heap.size ≤ e ∧ w.heap.size ≤ c ∧ (∃ b, blk A' = some b ∧ w.heap.size ≤ b) ∧ Shy (ownsQ g lb mb R) w w'
set_option maxHeartbeats 4000000 in
set_option maxRecDepth 100000 in
theorem put_first (h : QR w g lb mb p R t n) (a cost x : Int) (ha : wfI a) (hno : ∀ r ∈ R, r.cl.n ≠ a) (hnil : ∀ r ∈ R, blk r.A ≠ none) (hc : 1 ≤ cost ∧ cost ≤ p.most) (hl : (R.length : Int) < p.clients) (hp : 1 ≤ p.items) (hp2 : p.clients ≤ 1024) (hn : 0 ≤ n ∧ n ≤ 1000000) :
    Calls Try.prog 12 #[.pointer (some ⟨g, 0, none⟩), .int .i64 a, .int .i64 cost, .int .i64 x] w fun v w' => v = .returned (.int .i64 0) ∧ PutNew w w' g lb mb p R t n a cost x := by
  obtain ⟨c0, _, _, c3, c4, c5, _, _, cf⟩ := h.cells
  have hlk := h.look ha
  rw [tab_no h.dn hno] at hlk
  have hln := tab_no h.dn hno
  simp only [Option.getD_none, Option.isSome_none] at hlk
  have C := hid (none_no h)
  have CL := fun nq => chain_len (h.ring.ext (ext_drewN w nq))
  simp only [List.length_map, pt] at CL
  have CL := hid CL
  have h1 : ¬ cost < 1 := by omega
  have h2 : ¬ p.most < cost := by omega
  have h3 : ¬ p.clients ≤ (R.length : Int) := by omega
  have H := hid h
  have HNO := hid hno
  have HNIL := hid hnil
  have HLN := hid hln
  clear h hc hno hnil hln
  go_enter Try.func12, Try.ntmps12
  go_wp2_with fail
  refine C.out.mono ?_
  rintro e _ ⟨rfl, rfl⟩
  go_wp2_with fail
  go_quiet ((go_at_call 32; exact quiet_sym (CL.out _)))
  generalize hw1 : World.drewN w _ = w1
  have x1 : Ext w w1 := by rw [← hw1]; exact ext_drewN _ _
  have b1 := Blk.new w1 63 #[.int .i64 a, .int .i64 0, .slice none 0 0]
  have xa := ext_alloc w1 (.cells #[.int .i64 a, .int .i64 0, .slice none 0 0] 63)
  have hA := H.out.ext (ext_trans x1 xa)
  have hB := H.out.ext x1
  obtain ⟨_, _, _, _, k4, k5, _, _, kf⟩ := hB.cells
  have CP := hid (chain_push hA.ring 60 (pt w1.heap.size) (by have := hA.ring.le; simp only [List.length_map]; omega))
  have HA := hid hA
  have X1 := hid (ext_trans x1 xa)
  have XA := hid x1
  have B1 := hid b1
  have hs1 := x1.size
  clear hw1 x1 b1 xa hA hB c0 c3 c4 c5 cf hlk
  go_wp2_with fail
  refine CP.out.mono ?_
  rintro v w2 ⟨e, rfl, he, hr2, s2⟩
  have hgo := HA.out.g_other
  have hlo := HA.out.lb_other
  have hmo := HA.out.mb_other
  have hml := HA.out.map.lt
  have hm2 : MapF Try.prog w2 3 mb (tabQ R) R.length := shy_mapF s2 HA.out.map fun e' => by
    rcases e' with e' | e'
    · exact hlo.1 e'.symm
    · obtain ⟨s, hs', e'⟩ := mem_elt e'; exact (hmo s hs').1 e'.symm
  have ht2 := HA.out.top.shy s2 fun e' => by
    rcases e' with e' | e'
    · exact hgo.1 e'
    · obtain ⟨s, hs', e'⟩ := mem_elt e'; exact (hgo.2.2 s hs').1 e'
  have hc2 := B1.out.shy s2 fun e' => by
    have h5 := HA.out.lt
    rcases e' with e' | e'
    · have := H.out.lt lb (.inr (.inl rfl)); omega
    · obtain ⟨s, hs', e'⟩ := mem_elt e'
      have := H.out.lt s.e (.inr (.inr (.inr ⟨s, hs', .inl rfl⟩))); omega
  obtain ⟨w3, hrun, hm3, ht3⟩ := hm2.store keyed_int (t := 50) Try.underlying50 (by unfold maxLen; omega) (key_int ha) (pt e)
  rw [HLN.out] at hm3
  simp only [Option.isSome_none, Bool.false_eq_true, if_false] at hm3
  have s3 : Shy (fun k => k = mb) w2 w3 := (Shy.refl w2).grown ht3.grown fun _ e _ => by cases e; rfl
  have q3 := HA.out.push (e := e) (c := w1.heap.size) a ha HNO.out HNIL.out s2 hr2 hc2 (fun hk => by have := H.out.lt _ hk; omega) s3 hm3
  have he2 : w.heap.size ≤ e := by simp at he; omega
  have u5 := ht2.cell 5
  have uf := ht2.frozen
  have u1 := q3.top.cell 1
  simp at u5 u1
  have hr : (⟨⟨a, 0, []⟩, e, w1.heap.size, none, 0⟩ : Row) ∈ R ++ [⟨⟨a, 0, []⟩, e, w1.heap.size, none, 0⟩] := by simp
  have C2 := hid (of_row q3 hr)
  obtain ⟨_, _, d2, df⟩ := q3.ccells hr
  obtain ⟨i0, hi, hz0, hz1, hz2⟩ := info_parts info_item
  simp only [List.length_nil] at d2 df
  have h4 : ¬ p.items ≤ ((0 : Nat) : Int) := by omega
  have h5 : ¬ p.items ≤ 0 := by omega
  have Q := hid q3
  have S3 := hid ((s2.mono (V := ownsQ g lb mb R) fun k _ e' => by
    rcases e' with e' | e'
    · exact .inr (.inl e')
    · obtain ⟨s, hs', e'⟩ := mem_elt e'; exact .inr (.inr (.inr ⟨s, hs', .inl e'⟩))).trans s3 fun k _ e' => .inr (.inr (.inl e')))
  simp only [pt] at hrun
  clear hr2 s2 hgo hlo hmo hml hm2 ht2 hc2 hm3 ht3 s3 q3 k4 k5 kf he h3
  go_wp2_with fail
  refine C2.out.mono ?_
  rintro v _ ⟨rfl, rfl⟩
  go_wp2_with fail
  go_quiet (fail)
  generalize hw2 : World.drewN w3 _ = w2
  have x2 : Ext w3 w2 := by rw [← hw2]; exact ext_drewN _ _
  have Q2 := hid (Q.out.ext x2)
  have ho2 := OwnO.shy (U := fun _ => False) (Shy.of_ext (ext_trans x2 (ext_alloc w2 (.cells #[.int .i64 cost, .int .i64 x] 66)))) (Q.out.own _ hr) (fun _ _ e => e)
  obtain ⟨_, _, dd2, ddf⟩ := Q2.out.ccells hr
  have gf2 := Q2.out.top.frozen
  have g72 := Q2.out.top.cell 7
  simp at g72
  have kcg : ¬ w1.heap.size = g := ((Q2.out.g_other.2.2 _ hr).2.1).symm
  have kgc : ¬ g = w1.heap.size := (Q2.out.g_other.2.2 _ hr).2.1
  have hlt9 := Q2.out.lt
  have hAc : blk (none : Option Addr) ≠ some w1.heap.size := (Q2.out.row_other hr hr).2.2
  have hAg : blk (none : Option Addr) ≠ some g := (Q2.out.g_other.2.2 _ hr).2.2
  have HLT := hid hlt9
  have HW2 := hid hw2
  have X2 := hid x2
  clear hw2 x2 hlt9
  clear u5 uf u1 d2 df hrun
  simp only [List.length_nil] at ho2 dd2 ddf kcg kgc hAc hAg
  go_wp2_with (at_builtin; go_must (refine wpList_append_o rfl (.tmp 78) (.tmp 82) 61 rfl 66 i0 (.agg #[.int .i64 0, .int .i64 0]) 2 16 Try.underlying61 hi hz0 hz1 hz2 rfl (by decide) (by intro u hu; simp [Value.cells] at hu; subst hu; exact rfl) (fun _ h => h) rfl ho2 rfl (rd_two w2 _ _ _) (by intro u hu; simp at hu; rcases hu with rfl | rfl <;> exact rfl) (by decide) (by omega) (by unfold maxLen; omega) ?_); intro A5 c5 w5 o5 g5 n5; have e5 := ext_alloc w2 (.cells #[.int .i64 cost, .int .i64 x] 66); have d5 := (((Q2.out.cl _ hr).ext e5).grown g5 (fun h => hAc h.symm)); have d5 := hid d5; have df5 := d5.out.frozen; have t5 := (Q2.out.top.ext e5).grown g5 (fun h => hAg h.symm); have t57 := t5.cell 7; have tf5 := t5.frozen; have d52 := d5.out.cell 2; simp at t57 d52; have G5 := hid (grown_trans (grown_of_ext e5 _) g5); have O5 := hid o5; have N5 := hid n5; clear o5 g5 n5 e5 t5 ho2 dd2 ddf gf2 g72)
  go_ret
  have X := X2.out
  have hNA : ∃ b, blk A5 = some b ∧ w2.heap.size ≤ b := by
    rcases N5.out with h | h
    · rcases O5.out with ⟨_, h0, _⟩ | ⟨b, o, full, h0, _⟩
      · omega
      · rw [h] at h0; cases h0
    · exact ⟨_, by rw [h]; rfl, by simp⟩
  obtain ⟨q, s⟩ := QR.item (R1 := R) (R2 := []) Q2.out cost x G5.out (A' := A5) (c' := c5) O5.out (.inr hNA) rfl
  have z1 := X1.out.size
  have z2 := S3.out.size
  have z3 := X.size
  refine ⟨rfl, e, w1.heap.size, A5, c5, by simpa using q, he2, hs1, ?_, ?_⟩
  · obtain ⟨b, hb1, hb2⟩ := hNA
    exact ⟨b, hb1, by omega⟩
  · refine (((Shy.of_ext X1.out).trans S3.out fun _ _ h => h).trans (Shy.of_ext (U := fun _ => False) X) fun _ _ h => h.elim).trans s fun k hk h => ?_
    rcases h with h | h | h | ⟨r, hr', h⟩
    · exact .inl h
    · exact .inr (.inl h)
    · exact .inr (.inr (.inl h))
    · rcases List.mem_append.1 hr' with hr' | hr'
      · exact .inr (.inr (.inr ⟨r, hr', h⟩))
      · simp at hr'
        subst hr'
        rcases h with h | h | h
        · simp only at h; omega
        · simp only at h; omega
        · cases h
end
end Go.Proofs.Ytkogagpahidenaa

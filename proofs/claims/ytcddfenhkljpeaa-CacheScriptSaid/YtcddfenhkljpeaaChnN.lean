import Derived.Test.YtcddfenhkljpeaaChnA
/- Lists whose elements know their neighbours (chain): New, Len, Front, Next, last, out. -/
namespace Go.Proofs.Ytcddfenhkljpeaa
open Go.BK Go.RowKit
set_option linter.unusedVariables false

set_option maxHeartbeats 4000000 in
set_option maxRecDepth 100000 in
theorem chain_new (w : World) : Calls Try.prog 32 #[] w fun e w' => ∃ g, e = .returned (pt g) ∧ RingB w' g [] ∧ w.heap.size ≤ g ∧ Ext w w' := by
  go_enter Try.func32, Try.ntmps32
  go_wp2_with fail
  have KB := Blk.new w 110 #[.nilIface, .pointer none, .pointer none, .pointer none, .int .i64 0]
  have hx := ext_alloc w (.cells #[.nilIface, .pointer none, .pointer none, .pointer none, .int .i64 0] 110)
  generalize w.alloc (.cells #[.nilIface, .pointer none, .pointer none, .pointer none, .int .i64 0] 110) = w1 at *
  have k1 := KB.cell 1
  have k2 := KB.cell 2
  have kf := KB.frozen
  simp at k1 k2
  have KB := hid KB
  have hx := hid hx
  go_region
  go_wp2
  go_ret
  refine ⟨w.heap.size, rfl, ⟨?_, trivial, by simp, by simp⟩, Nat.le_refl _, ?_⟩
  · have := ((KB.out.set_ 1 (pt w.heap.size)).set_ 2 (pt w.heap.size)).drew
    simpa [lsR, hdR] using this
  · exact (((Below.setCell (Below.setCell hx.out (Nat.le_refl _) _) (Nat.le_refl _) _)).drew)
section
variable {w : World} {g : Nat} {l : List Elt}
def frontV : List Elt → Value
  | [] => .pointer none
  | x :: _ => pt x.1
set_option maxHeartbeats 1000000 in
theorem chain_front (h : RingB w g l) : Calls Try.prog 44 #[pt g] w fun e w' => e = .returned (frontV l) ∧ w = w' := by
  obtain ⟨_, _, c2, _, c4, _⟩ := h.cells
  cases l with
  | nil =>
    have q : ((0 : Int) == 0) = true := by rfl
    clear h
    simp only [List.length_nil] at c4
    go_enter Try.func44, Try.ntmps44
    go_wp2
    go_ret
    exact ⟨rfl, rfl⟩
  | cons x l =>
    have q : (((x :: l).length : Int) == 0) = false := by simp; omega
    obtain ⟨n, hn⟩ : ∃ n : Nat, (x :: l).length = n := ⟨_, rfl⟩
    rw [hn] at c4 q
    simp only [hdR] at c2
    clear h hn
    go_enter Try.func44, Try.ntmps44
    go_wp2
    go_ret
    exact ⟨rfl, rfl⟩
set_option maxHeartbeats 1000000 in
theorem chain_next {A B : List Elt} {x : Elt} (h : RingB w g (A ++ x :: B)) : Calls Try.prog 45 #[pt x.1] w fun e w' => e = .returned (frontV B) ∧ ∃ n, w' = w.drewN n := by
  obtain ⟨hx, _, _⟩ := h.at_
  have c2 := hx.cell 2
  have c3 := hx.cell 3
  have cf := hx.frozen
  cases B with
  | nil =>
    simp only [hdR] at c2
    simp at c2 c3
    simp only [pt] at c2 c3 ⊢
    have heq : ∀ nq, (binOp .eql 92 (.pointer (some ⟨g, 0, none⟩)) (.pointer (some ⟨g, 0, none⟩))).run Try.prog (w.drewN nq) = .ok (.bool true) (w.drewN nq) := fun nq => eq_elt_same _ _
    clear h hx
    go_enter Try.func45, Try.ntmps45
    go_wp2_with fail
    go_quiet (fail)
    go_wp2
    go_ret
    exact ⟨rfl, _, rfl⟩
  | cons y B =>
    have hy : ¬ y.1 = g := (h.ne (by simp)).symm
    simp only [hdR] at c2
    simp at c2 c3
    simp only [pt] at c2 c3 ⊢
    have heq : ∀ nq, (binOp .eql 92 (.pointer (some ⟨y.1, 0, none⟩)) (.pointer (some ⟨g, 0, none⟩))).run Try.prog (w.drewN nq) = .ok (.bool false) (w.drewN nq) := by
      intro nq
      obtain ⟨ya, yb, hyb⟩ := h.2.1.blk y (by simp)
      exact eq_elt_other (hyb.drewN nq) (h.1.drewN nq) hy
    clear h hx
    go_enter Try.func45, Try.ntmps45
    go_wp2_with fail
    go_quiet (fail)
    go_wp2
    go_ret
    exact ⟨rfl, _, rfl⟩
set_option maxHeartbeats 4000000 in
set_option maxRecDepth 100000 in
theorem chain_last {e : Nat} {v a b : Value} (h : RingB w g l) (he : Blk w e 108 #[v, a, b, pt g]) (hn : e ∉ l.map Prod.fst) (hl : l.length < 1000000) :
    Calls Try.prog 67 #[pt g, pt e] w fun x w' => x = .returned (.tuple #[]) ∧ RingB w' g (l ++ [(e, v)]) ∧ Shy (fun k => k = g ∨ k = e ∨ k ∈ l.map Prod.fst) w w' := by
  obtain ⟨_, c1, c2, c3, c4, cf⟩ := h.cells
  have hge : g ≠ e := blk_ne h.1 he list_ne_elt
  have hge' : ¬ e = g := fun e' => hge e'.symm
  have e1 := he.cell 1
  have e2 := he.cell 2
  have ef := he.frozen
  simp at e1 e2
  obtain ⟨p, hp⟩ : ∃ p, lsR g l = p := ⟨_, rfl⟩
  have hpe : ¬ p = e := by
    rw [← hp]
    rcases lsR_mem g l with ⟨_, h1⟩ | ⟨a, x, h0, h1⟩
    · rw [h1]; exact hge
    · rw [h1]; intro e'; exact hn (by rw [h0, ← e']; simp)
  have hps : (w.cell? ⟨p, 2, none⟩).isSome = true ∧ (∀ i, w.frozen? ⟨p, i, none⟩ = false) ∧ (p = g ∨ p ∈ l.map Prod.fst) := by
    rw [← hp]
    rcases lsR_mem g l with ⟨_, h1⟩ | ⟨a, x, h0, h1⟩
    · rw [h1, c2]; exact ⟨rfl, cf, .inl rfl⟩
    · obtain ⟨y, z, hb⟩ := h.2.1.blk x (by rw [h0]; simp)
      rw [h1, hb.cell 2]; exact ⟨rfl, hb.frozen, .inr (by rw [h0]; simp)⟩
  obtain ⟨hp2, hpf, hpm⟩ := hps
  obtain ⟨n, hnn⟩ : ∃ n : Nat, l.length = n := ⟨_, rfl⟩
  rw [hnn] at c4
  rw [hp] at c1
  have hn9 : n < 1000000 := by omega
  obtain ⟨pv, hpv⟩ := Option.isSome_iff_exists.1 hp2
  have fin : ∀ W : World, W = (((((w.setCell ⟨e, 1, none⟩ (pt p)).setCell ⟨e, 2, none⟩ (pt g)).setCell ⟨p, 2, none⟩ (pt e)).setCell ⟨g, 1, none⟩ (pt e)).setCell ⟨g, 4, none⟩ (.int .i64 (n + 1))).drew →
      RingB W g (l ++ [(e, v)]) ∧ Shy (fun k => k = g ∨ k = e ∨ k ∈ l.map Prod.fst) w W := by
    rintro W rfl
    have hs0 : Shy (fun k => k = e) w ((w.setCell ⟨e, 1, none⟩ (pt p)).setCell ⟨e, 2, none⟩ (pt g)) := (set_shy e 1 (pt p) w).set (fun _ => rfl) 2 (pt g)
    have h1 := h.shy hs0 hge fun x hx e' => hn (e' ▸ List.mem_map_of_mem hx)
    have h2 := (he.set_ 1 (pt p)).set_ 2 (pt g)
    have h3 := ring_push h1 (e := e) (v := v) (by rw [hp]; simpa using h2) hn hl
    rw [hp, hnn] at h3
    refine ⟨h3.ext (ext_drewN _ 1), ?_⟩
    have s1 : Shy (fun k => k = g ∨ k = e ∨ k ∈ l.map Prod.fst) w ((w.setCell ⟨e, 1, none⟩ (pt p)).setCell ⟨e, 2, none⟩ (pt g)) := hs0.mono fun k _ h => .inr (.inl h)
    have s2 := (s1.set (b := p) (fun _ => by rcases hpm with h | h; exact .inl h; exact .inr (.inr h)) 2 (pt e)).set (b := g) (fun _ => .inl rfl) 1 (pt e)
    exact (s2.set (b := g) (fun _ => .inl rfl) 4 _).trans (shy_drewN (U := fun _ => False) _ 1) fun _ _ h => h.elim
  have fin := hid fin
  simp only [pt] at c1 c2 ⊢
  clear h he hn hp hl hnn c3 hp2 hpm
  go_enter Try.func67, Try.ntmps67
  go_wp2_with fail
  go_region
  go_wp2_with fail
  go_end0
  refine ⟨rfl, fin.out _ ?_⟩
  rfl
set_option maxHeartbeats 4000000 in
set_option maxRecDepth 100000 in
theorem chain_out {A B : List Elt} {x : Elt} (h : RingB w g (A ++ x :: B)) :
    Calls Try.prog 66 #[pt g, pt x.1] w fun r w' => r = .returned (.tuple #[]) ∧ RingB w' g (A ++ B) ∧ Blk w' x.1 108 #[x.2, pt (lsR g A), pt (hdR g B), pt g] ∧ Shy (fun k => k = g ∨ k ∈ (A ++ B).map Prod.fst) w w' := by
  obtain ⟨_, _, c2, _, c4, cf⟩ := h.cells
  have c1 := h.1.cell 1
  simp at c1
  have hle := h.le
  obtain ⟨hx, _, _⟩ := h.at_
  have hge : g ≠ x.1 := h.ne (by simp)
  have hge' : ¬ x.1 = g := fun e' => hge e'.symm
  have e1 := hx.cell 1
  have e2 := hx.cell 2
  have ef := hx.frozen
  simp at e1 e2
  have nd := h.2.2.1
  rw [List.map_append, List.map_cons, List.nodup_append, List.nodup_cons] at nd
  obtain ⟨nA, ⟨nx, nB⟩, nAB⟩ := nd
  obtain ⟨p, hp⟩ : ∃ p, lsR g A = p := ⟨_, rfl⟩
  obtain ⟨q, hq⟩ : ∃ q, hdR g B = q := ⟨_, rfl⟩
  have hps : ((w.cell? ⟨p, 2, none⟩).isSome = true ∧ (∀ i, w.frozen? ⟨p, i, none⟩ = false) ∧ (p = g ∨ p ∈ (A ++ B).map Prod.fst)) ∧ ¬ p = x.1 := by
    rw [← hp]
    rcases lsR_mem g A with ⟨_, h1⟩ | ⟨a, z, h0, h1⟩
    · rw [h1, c2]; exact ⟨⟨rfl, cf, .inl rfl⟩, hge⟩
    · obtain ⟨y, y', hb⟩ := h.2.1.blk z (by rw [h0]; simp)
      rw [h1, hb.cell 2]
      refine ⟨⟨rfl, hb.frozen, .inr (by rw [h0]; simp)⟩, fun e => ?_⟩
      exact nAB z.1 (by rw [h0]; simp) x.1 (by simp) e
  have hqs : ((w.cell? ⟨q, 1, none⟩).isSome = true ∧ (∀ i, w.frozen? ⟨q, i, none⟩ = false) ∧ (q = g ∨ q ∈ (A ++ B).map Prod.fst)) ∧ ¬ q = x.1 := by
    rw [← hq]
    rcases hdR_mem g B with ⟨_, h1⟩ | ⟨z, a, h0, h1⟩
    · rw [h1, c1]; exact ⟨⟨rfl, cf, .inl rfl⟩, hge⟩
    · obtain ⟨y, y', hb⟩ := h.2.1.blk z (by rw [h0]; simp)
      rw [h1, hb.cell 1]
      refine ⟨⟨rfl, hb.frozen, .inr (by rw [h0]; simp)⟩, fun e => nx ?_⟩
      rw [← e, h0]; simp
  obtain ⟨⟨hp2, hpf, hpm⟩, hpx⟩ := hps
  obtain ⟨⟨hq1, hqf, hqm⟩, hqx⟩ := hqs
  obtain ⟨n, hnn⟩ : ∃ n : Nat, (A ++ x :: B).length = n := ⟨_, rfl⟩
  rw [hnn] at c4 hle
  have hn1 : 1 ≤ n := by rw [← hnn]; simp; omega
  rw [hp] at e1
  rw [hq] at e2
  obtain ⟨pv, hpv⟩ := Option.isSome_iff_exists.1 hp2
  obtain ⟨qv, hqv⟩ := Option.isSome_iff_exists.1 hq1
  have fin : ∀ W : World, W = (((w.setCell ⟨p, 2, none⟩ (pt q)).setCell ⟨q, 1, none⟩ (pt p)).setCell ⟨g, 4, none⟩ (.int .i64 (n - 1))).drew →
      RingB W g (A ++ B) ∧ Blk W x.1 108 #[x.2, pt (lsR g A), pt (hdR g B), pt g] ∧ Shy (fun k => k = g ∨ k ∈ (A ++ B).map Prod.fst) w W := by
    rintro W rfl
    have h3 := ring_out h
    rw [hp, hq, hnn] at h3
    rw [hp, hq]
    refine ⟨h3.1.ext (ext_drewN _ 1), h3.2.drewN 1, ?_⟩
    have s1 : Shy (fun k => k = g ∨ k ∈ (A ++ B).map Prod.fst) w ((w.setCell ⟨p, 2, none⟩ (pt q)).setCell ⟨q, 1, none⟩ (pt p)) := ((Shy.refl w).set (b := p) (fun _ => hpm) 2 (pt q)).set (b := q) (fun _ => hqm) 1 (pt p)
    exact (s1.set (b := g) (fun _ => .inl rfl) 4 _).trans (shy_drewN (U := fun _ => False) _ 1) fun _ _ h => h.elim
  have fin := hid fin
  simp only [pt] at e1 e2 ⊢
  obtain ⟨xe, hxe⟩ : ∃ xe, x.1 = xe := ⟨_, rfl⟩
  rw [hxe] at hpx hqx hge hge' e1 e2 ef ⊢
  rw [hxe] at fin
  clear h hx hp hq hnn c1 c2 hp2 hq1 hpm hqm nA nx nB nAB hxe
  go_enter Try.func66, Try.ntmps66
  go_wp2_with fail
  go_region
  all_goals
    go_wp2_with fail
    go_end0
    refine ⟨rfl, fin.out _ ?_⟩
    rfl
/-- PushBack. -/
theorem chain_push (h : RingB w g l) (t : TypeId) (u : Value) (hl : l.length < 1000000) :
    Calls Try.prog 60 #[pt g, .iface t u] w fun r w' => ∃ e, r = .returned (pt e) ∧ w.heap.size ≤ e ∧ RingB w' g (l ++ [(e, .iface t u)]) ∧ Shy (fun k => k = g ∨ k ∈ l.map Prod.fst) w w' := by
  have hb := Blk.new w 108 #[.iface t u, .pointer none, .pointer none, pt g]
  have hx := ext_alloc w (.cells #[.iface t u, .pointer none, .pointer none, pt g] 108)
  have hlt := h.2.1.lt
  have C := hid (chain_last (h.ext hx) hb (by
    intro hm
    obtain ⟨x, hx1, hx2⟩ := List.mem_map.1 hm
    have := hlt x hx1
    omega) hl)
  have hx := hid hx
  clear h hb hlt
  go_enter Try.func60, Try.ntmps60
  go_wp2_with fail
  refine C.out.mono ?_
  rintro r w1 ⟨rfl, h1, h2⟩
  go_wp2_with fail
  go_ret
  refine ⟨w.heap.size, rfl, Nat.le_refl _, h1, ?_⟩
  refine ((Shy.of_ext hx.out).trans h2 fun k hk h => ?_)
  rcases h with h | h | h
  · exact .inl h
  · omega
  · exact .inr h
/-- Remove. -/
theorem chain_remove {A B : List Elt} {x : Elt} (h : RingB w g (A ++ x :: B)) :
    Calls Try.prog 59 #[pt g, pt x.1] w fun r w' => r = .returned (.tuple #[]) ∧ RingB w' g (A ++ B) ∧ Shy (fun k => k = g ∨ k ∈ (A ++ x :: B).map Prod.fst) w w' := by
  obtain ⟨hx, _, _⟩ := h.at_
  have hge : g ≠ x.1 := h.ne (by simp)
  have hsep : ∀ y ∈ A ++ B, y.1 ≠ x.1 := by
    have nd := h.2.2.1
    rw [List.map_append, List.map_cons, List.nodup_append, List.nodup_cons] at nd
    obtain ⟨nA, ⟨nx, nB⟩, nAB⟩ := nd
    intro y hy e
    rcases List.mem_append.1 hy with hy | hy
    · exact nAB y.1 (List.mem_map_of_mem hy) x.1 (by simp) e
    · exact nx (e ▸ List.mem_map_of_mem hy)
  have e3 := hx.cell 3
  have ef := hx.frozen
  simp at e3
  have heq := eq_list_same ⟨g, 0, none⟩ w
  have C := hid (chain_out h)
  have HS := hid hsep
  clear h hx hsep
  simp only [pt] at e3 ⊢
  go_enter Try.func59, Try.ntmps59
  go_wp2_with fail
  refine C.out.mono ?_
  rintro r w1 ⟨rfl, h1, h2, h3⟩
  have k3 := h2.cell 3
  have kf := h2.frozen
  simp at k3
  clear e3 ef heq
  have H1 := hid h1
  have H3 := hid h3
  clear h1 h2 h3
  go_wp2_with fail
  go_end0
  refine ⟨rfl, ?_, ?_⟩
  · exact H1.out.shy (set_shy x.1 3 _ w1) hge fun y hy => HS.out y hy
  · refine (H3.out.mono fun k _ h => ?_).set (b := x.1) (fun _ => .inr (by simp)) 3 _
    rcases h with h | h
    · exact .inl h
    · refine .inr ?_
      simp at h ⊢
      rcases h with h | h
      · exact .inl h
      · exact .inr (.inr h)
/-- MoveToBack. -/
theorem chain_back {A B : List Elt} {x : Elt} (h : RingB w g (A ++ x :: B)) :
    Calls Try.prog 62 #[pt g, pt x.1] w fun r w' => r = .returned (.tuple #[]) ∧ RingB w' g (A ++ B ++ [x]) ∧ Shy (fun k => k = g ∨ k ∈ (A ++ x :: B).map Prod.fst) w w' := by
  obtain ⟨hx, _, _⟩ := h.at_
  have hsep : x.1 ∉ (A ++ B).map Prod.fst := by
    have nd := h.2.2.1
    rw [List.map_append, List.map_cons, List.nodup_append, List.nodup_cons] at nd
    obtain ⟨nA, ⟨nx, nB⟩, nAB⟩ := nd
    intro hm
    rw [List.map_append, List.mem_append] at hm
    rcases hm with hm | hm
    · exact nAB _ hm x.1 (by simp) rfl
    · exact nx hm
  have hle := h.le
  have e3 := hx.cell 3
  have ef := hx.frozen
  simp at e3
  have heq := eq_list_same ⟨g, 0, none⟩ w
  have C := hid (chain_out h)
  have HS := hid hsep
  have HL := hid hle
  clear h hx hsep hle
  simp only [pt] at e3 ⊢
  go_enter Try.func62, Try.ntmps62
  go_wp2_with fail
  refine C.out.mono ?_
  rintro r w1 ⟨rfl, h1, h2, h3⟩
  clear e3 ef heq
  have C2 := hid (chain_last h1 h2 HS.out (by have := HL.out; simp at this ⊢; omega))
  have H3 := hid h3
  clear h1 h2 h3
  go_wp2_with fail
  refine C2.out.mono ?_
  rintro r w2 ⟨rfl, h4, h5⟩
  have H4 := hid h4
  have H5 := hid h5
  clear h4 h5
  go_wp2_with fail
  go_end0
  refine ⟨rfl, H4.out, ?_⟩
  refine (H3.out.mono fun k _ h => ?_).trans H5.out fun k _ h => ?_
  · rcases h with h | h
    · exact .inl h
    · refine .inr ?_
      simp at h ⊢
      rcases h with h | h
      · exact .inl h
      · exact .inr (.inr h)
  · rcases h with h | h | h
    · exact .inl h
    · exact .inr (by rw [h]; simp)
    · refine .inr ?_
      simp at h ⊢
      rcases h with h | h
      · exact .inl h
      · exact .inr (.inr h)
end
end Go.Proofs.Ytcddfenhkljpeaa

import Derived.Test.YtcddfenhkljpeaaLabA
import Derived.RangeFuncNested
/- name.Labels: which labels a name has, or the error. -/
namespace Go.Proofs.Ytcddfenhkljpeaa
open Go.BK Go.RowKit Go.Shelf Go.BK.NM
attribute [local go_sem] Oper.semAt_some
set_option linter.unusedVariables false

def strV (s : Bs) : Value := .string (str s)
def okS (v : Value) : Prop := ∃ s, v = .string s
theorem okS_map (L : List Bs) : ∀ u ∈ L.map strV, okS u := by
  intro u hu; obtain ⟨b, _, rfl⟩ := List.mem_map.1 hu; exact ⟨_, rfl⟩
theorem okS.one {v : Value} (h : okS v) : v.oneCell' = true := by obtain ⟨b, rfl⟩ := h; rfl
theorem info_str : (Try.prog.info? 9).map (fun i => (i.zero, i.size, i.bytes)) = some (some (.string ⟨#[]⟩), 1, 16) := by kernel_rfl
/-- A slice of texts that the call itself owns. -/
def OwnS (w : World) (base : Nat) (A : Option Addr) (c : Nat) (L : List Bs) : Prop := OwnG okS w base 9 1 A L.length c (L.map strV)

set_option maxHeartbeats 1000000 in
theorem all_any (s : ByteArray) (w : World) :
    Calls Try.prog 68 #[.string s] w fun e w' => e = .returned (.func (.func 69) #[] #[.pointer (some ⟨w.heap.size, 0, none⟩)]) ∧ w' = w.alloc (.cells #[.string s] 9) := by
  go_enter Try.func68, Try.ntmps68
  go_wp2
  go_ret
  exact ⟨rfl, rfl⟩

/-- Between two rounds of Labels: h the heap's size ahead of all. -/
def LabJ (w : World) (rec : LoopState → Option Code → Loop) (pre : List Bs) (W : World) : Prop :=
  ∃ A c, Blk W (w.heap.size + 2) 28 #[.slice A pre.length c] ∧ OwnG okS W (w.heap.size + 6) 9 1 A pre.length c (pre.map strV) ∧ Blk W w.heap.size 28 #[.slice none 0 0] ∧ Blk W (w.heap.size + 1) 25 #[.int .i64 0] ∧
    W.heap[w.heap.size + 5]? = some (.loop (rec .ready none)) ∧ W.heap[w.heap.size + 4]? = some (.deferred (some [])) ∧ Below w.heap.size w W ∧ w.heap.size + 6 ≤ W.heap.size
/-- Behind a round that returned. -/
def LabX (w : World) (rec : LoopState → Option Code → Loop) (W : World) : Prop :=
  Blk W w.heap.size 28 #[.slice none 0 0] ∧ Blk W (w.heap.size + 1) 25 #[.int .i64 4] ∧
    W.heap[w.heap.size + 5]? = some (.loop (rec .done (some .ret))) ∧ W.heap[w.heap.size + 4]? = some (.deferred (some [])) ∧ Below w.heap.size w W

theorem LabJ.kept {w W W' : World} {rec : LoopState → Option Code → Loop} {pre : List Bs} (h : LabJ w rec pre W) (hg : W.grownBy W' (some (w.heap.size + 3))) : LabJ w rec pre W' := by
  obtain ⟨A, c, h1, h2, h3, h4, h5, h6, h7, h8⟩ := h
  refine ⟨A, c, h1.grown hg (by simp), h2.grown hg (fun b hb => ?_), h3.grown hg (by simp), h4.grown hg (by simp), heap_kept h5 hg (by simp), heap_kept h6 hg (by simp), h7.grown hg (by omega) (fun g hg => by cases hg; omega), Nat.le_trans h8 hg.size⟩
  have := (h2.lt b hb).1
  intro e; cases e; omega

theorem then_gen {c : Code} {F : Fence} {n : Nat} {a : Act} {w : World} {K : Act → World → Prop} {Q : Exit → Act → World → Prop} (a1 : Act) (w1 : World) (h : ∀ K' : Act → World → Prop, K' a1 w1 → c.wpIn F n Try.prog (Exit.then K' Q) a w) (hk : K a1 w1) : c.wpIn F n Try.prog (Exit.then K Q) a w := h K hk

set_option maxRecDepth 100000 in
set_option maxHeartbeats 4000000 in
theorem labels_in (n0 : Bs) (w : World) (hn : n0.length ≤ 2000000) :
    Calls Try.prog 61 #[.string (str n0)] w fun e w' => ∃ A c, e = .returned (.tuple #[.slice A (labelsS n0).1.length c, .int .i64 (labelsS n0).2]) ∧ OwnS w' w.heap.size A c (labelsS n0).1 ∧ Ext w w' := by
  obtain ⟨i0, hi, hz0, hz1, hz2⟩ := info_parts info_str
  refine (callsIn_wide (n := 6)).1 ?_
  refine callsIn_of_wp_marks Try.func61 rfl trivial ?_ rfl
  simp only [Try.ntmps61, List.size_toArray, List.length_cons, List.length_nil, Nat.reduceAdd, Nat.reduceSub, Array.replicate_succ, Array.replicate_zero, List.push_toArray, List.append_toArray, List.nil_append, List.cons_append]
  gi_wp2_with (refine ⟨trivial, ?_⟩; gi_at_call 68; refine (callsIn_wide.2 (all_any _ _)).mono ?_; rintro e w' ⟨rfl, rfl⟩)
  obtain ⟨wb, hwb⟩ : ∃ wb, wb = ((((w.alloc (.cells #[.slice none 0 0] 28)).alloc (.cells #[.int .i64 0] 25)).alloc (.cells #[.slice none 0 0] 28)).alloc (.cells #[.string (str n0)] 9)) := ⟨_, rfl⟩
  have hz : wb.heap.size = w.heap.size + 4 := by rw [hwb]; simp
  have k2 : Blk wb w.heap.size 28 #[.slice none 0 0] := by rw [hwb]; exact (((Blk.new w _ _).alloc _).alloc _).alloc _
  have k3 : Blk wb (w.heap.size + 1) 25 #[.int .i64 0] := by
    rw [hwb]
    have := ((Blk.new (w.alloc (.cells #[.slice none 0 0] 28)) 25 #[.int .i64 0]).alloc (.cells #[.slice none 0 0] 28)).alloc (.cells #[.string (str n0)] 9)
    simpa using this
  have k4 : Blk wb (w.heap.size + 2) 28 #[.slice none 0 0] := by
    rw [hwb]
    have := (Blk.new ((w.alloc (.cells #[.slice none 0 0] 28)).alloc (.cells #[.int .i64 0] 25)) 28 #[.slice none 0 0]).alloc (.cells #[.string (str n0)] 9)
    simpa using this
  have k5 : Blk wb (w.heap.size + 3) 9 #[.string (str n0)] := by
    rw [hwb]
    have := Blk.new (((w.alloc (.cells #[.slice none 0 0] 28)).alloc (.cells #[.int .i64 0] 25)).alloc (.cells #[.slice none 0 0] 28)) 9 #[.string (str n0)]
    simpa using this
  have xb : Ext w wb := by rw [hwb]; exact ext_trans (ext_alloc _ _) (ext_trans (ext_alloc _ _) (ext_trans (ext_alloc _ _) (ext_alloc _ _)))
  rw [← hwb]
  clear hwb
  refine range_told rfl (by omega) (gf := 69) (lb := #[.pointer (some ⟨w.heap.size + 3, 0, none⟩)]) rfl trivial (enters_of Try.func69 (by kernel_rfl) rfl) fun fn rec _ hrec => ?_
  have r1 := begunL_rec wb rec
  have r2 := begunL_def wb rec
  have xw := begunL_ext wb rec
  have hzz := begunL_size wb rec
  obtain ⟨W0, hW0⟩ : ∃ W0, W0 = begunL wb rec := ⟨_, rfl⟩
  rw [← hW0] at r1 r2 xw hzz ⊢
  rw [hz] at r1 r2 hzz ⊢
  clear hW0
  have J0 : LabJ w rec [] W0 := ⟨none, 0, k4.ext xw, OwnG.nil _ _ _ _ _, k2.ext xw, k3.ext xw, r1, r2, ext_trans xb xw, by omega⟩
  have hc5 := (k5.ext xw).cell 0
  have hf5 := (k5.ext xw).frozen 0
  refine (all1_in 5 (w.heap.size + 5) (w.heap.size + 3) n0 (LabJ w rec) (LabX w rec) (by omega) (fun pre W v h => h.kept (grownBy_setCell' W _ v)) (fun pre W m h => h.kept (grown_of_ext (ext_drewN W m) _)) ?hY ?hN W0 hc5 hf5 J0 (by omega)).mono ?post
  case hY =>
    clear J0 hc5 hf5 r1 r2 xw hzz k2 k3 k4 k5 xb hz
    rintro pre x W ⟨A, c, h1, h2, h3, h4, h5, h6, h7, h8⟩ hlt hx
    have hy := run_yield (P := Try.prog) (args := #[.string (str x), .bool true]) h5 (by rw [hrec.out]; rfl)
    have hbg := run_beginRound (P := Try.prog) h5 (by rw [hrec.out]; rfl)
    rw [hrec.out] at hy
    refine ⟨_, _, _, _, hy, roundIn_of_wpIn trivial ?_⟩
    clear hy
    simp only [Nat.add_assoc, Nat.reduceAdd, recL, List.zip_toArray, List.zip_cons_cons, List.zip_nil_right, List.foldl_toArray, List.foldl_cons, List.foldl_nil, List.setIfInBounds_toArray, List.set_cons_succ, List.set_cons_zero]
    refine then_gen { tmps := #[.string (str n0), undef, .pointer (some ⟨w.heap.size, 0, none⟩), .pointer (some ⟨w.heap.size + 1, 0, none⟩), .pointer (some ⟨w.heap.size + 2, 0, none⟩), .string (str x), .bool true, .string (str n0), .func (.func 69) #[] #[.pointer (some ⟨w.heap.size + 3, 0, none⟩)], .string (str x), .bool true, undef, undef, undef, undef, undef, undef, undef, undef, undef, undef], defers := [] } W (fun K' hK' => ?_) ?_
    · gi_wp2
      exact hK'
    refine ⟨_, hbg, ?_⟩
    have hrb : ({ rec .ready none with state := .busy } : Loop) = rec .busy none := by rw [hrec.out]; rfl
    rw [hrb]
    have g2 := put_grown W (w.heap.size + 5) (.loop (rec .busy none))
    have l2 : (W.putObj (w.heap.size + 5) (.loop (rec .busy none))).heap[w.heap.size + 5]? = some (.loop (rec .busy none)) := World.putObj_heap_same (by omega)
    have hz2 : (W.putObj (w.heap.size + 5) (.loop (rec .busy none))).heap.size = W.heap.size := by simp
    obtain ⟨W2, hW2⟩ : ∃ W2, W2 = W.putObj (w.heap.size + 5) (.loop (rec .busy none)) := ⟨_, rfl⟩
    rw [← hW2] at g2 l2 hz2 ⊢
    clear hW2 hrb hbg
    have m1 := h1.grown g2 (by simp)
    have m2 : OwnG okS W2 (w.heap.size + 6) 9 1 A pre.length c (pre.map strV) := h2.grown g2 (fun b hb => by have := (h2.lt b hb).1; intro e; cases e; omega)
    have c1 := m1.cell 0
    have f1 := m1.frozen 0
    have hb2 : w.heap.size + 6 ≤ W2.heap.size := by omega
    have G2 := hid g2
    have M1 := hid m1
    have M2 := hid m2
    have H := hid (And.intro h3 (And.intro h4 (And.intro h6 (And.intro h7 (And.intro h8 (And.intro l2 hz2))))))
    clear g2 m1 m2 h1 h2 h3 h4 h5 h6 h7 h8 l2 hz2
    have hne : some (w.heap.size + 2) ≠ blk A := by
      intro e
      have := (M2.out.lt _ e.symm).1
      omega
    gi_wp2_with (gi_at_builtin; go_must (refine wpListIn_append_1 rfl (.tmp 13) (.tmp 15) 28 rfl (w.heap.size + 6) 9 i0 (.string ⟨#[]⟩) 16 Try.underlying28 hi hz0 hz1 hz2 rfl ⟨_, rfl⟩ (fun _ h => h.one) rfl M2.out (.string (str x)) rfl ⟨_, rfl⟩ (by omega) (by unfold maxLen; omega) hb2 ?_); intro A5 c5 w5 o5 g5 x5 n5; have K5 := M1.out.grown g5 hne; have d0 := K5.cell 0; have df := K5.frozen 0)
    obtain ⟨h3, h4, h6, h7, h8, l2, hz2⟩ := H.out
    have hg := G2.out
    have l5 := heap_kept l2 g5 (fun e => by have := (M2.out.lt _ e.symm).1; omega)
    have l6 : (w5.setCell ⟨w.heap.size + 2, 0, none⟩ (.slice A5 (pre.length + 1) c5)).heap[w.heap.size + 5]? = some (.loop (rec .busy none)) := (Below.heap_setCell _ _ _ _ (by simp)).trans l5
    refine ⟨_, _, run_endRound none l6, rfl, ?_⟩
    have e3 : ({ rec .busy none with state := if (none : Option Code).isNone = true then .ready else .done, pending := none } : Loop) = rec .ready none := by rw [hrec.out]; rfl
    rw [e3]
    have z5 := g5.size
    have g6 : w5.grownBy (w5.setCell ⟨w.heap.size + 2, 0, none⟩ (.slice A5 (pre.length + 1) c5)) (some (w.heap.size + 2)) := grownBy_setCell' w5 _ _
    have z6 := g6.size
    have g7 := put_grown (w5.setCell ⟨w.heap.size + 2, 0, none⟩ (.slice A5 (pre.length + 1) c5)) (w.heap.size + 5) (.loop (rec .ready none))
    have l7 : ((w5.setCell ⟨w.heap.size + 2, 0, none⟩ (.slice A5 (pre.length + 1) c5)).putObj (w.heap.size + 5) (.loop (rec .ready none))).heap[w.heap.size + 5]? = some (.loop (rec .ready none)) := World.putObj_heap_same (by omega)
    have k6 := K5.set_ 0 (.slice A5 (pre.length + 1) c5)
    have nA : ∀ j, j < w.heap.size + 6 → some j ≠ blk A := fun j hj e => by have := (M2.out.lt _ e.symm).1; omega
    have o6 : OwnG okS (w5.setCell ⟨w.heap.size + 2, 0, none⟩ (.slice A5 (pre.length + 1) c5)) (w.heap.size + 6) 9 1 A5 (pre.length + 1) c5 (pre.map strV ++ [.string (str x)]) := o5.far (by simp) _
    generalize (w5.setCell ⟨w.heap.size + 2, 0, none⟩ (.slice A5 (pre.length + 1) c5)) = w6 at *
    generalize w6.putObj (w.heap.size + 5) (.loop (rec .ready none)) = w7 at *
    have q7 : ∀ {t : TypeId} {cs : Array Value} {j : Nat}, Blk W j t cs → j < w.heap.size + 5 → j ≠ w.heap.size + 2 → Blk w7 j t cs := fun hk hj hn =>
      (((hk.grown hg (by simp; omega)).grown g5 (nA _ (by omega))).grown g6 (by simpa using hn)).grown g7 (by simp; omega)
    have q3 : w7.heap[w.heap.size + 3]? = W.heap[w.heap.size + 3]? :=
      (g7.block _ (by omega) (by simp)).trans ((g6.block _ (by omega) (by simp)).trans ((g5.block _ (by omega) (nA _ (by omega))).trans (hg.block _ (by omega) (by simp))))
    refine ⟨⟨A5, c5, ?_, ?_, q7 h3 (by omega) (by omega), q7 h4 (by omega) (by omega), l7, ?_, ?_, ?_⟩, World.cell?_of_block q3, ?_⟩
    · have := k6.grown g7 (by simp)
      simpa using this
    · have := o6.grown g7 (fun b hb => by have := (o6.lt b hb).1; intro e; cases e; omega)
      simpa [strV] using this
    · exact heap_kept (heap_kept (heap_kept (heap_kept h6 hg (by simp)) g5 (nA _ (by omega))) g6 (by simp)) g7 (by simp)
    · have b2 := h7.grown hg (by omega) (fun g hg => by cases hg; omega)
      have b5 := b2.grown g5 (by omega) (fun g hg => by have := (M2.out.lt g hg).1; omega)
      have b6 := b5.grown g6 (by omega) (fun g hg => by cases hg; omega)
      exact b6.grown g7 (by omega) (fun g hg => by cases hg; omega)
    · have := g7.size; omega
    · unfold World.frozen?; simp only; rw [q3]
  case hN =>
    clear J0 hc5 hf5 r1 r2 xw hzz k2 k3 k4 k5 xb hz
    rintro pre W ⟨A, c, h1, h2, h3, h4, h5, h6, h7, h8⟩
    have hy := run_yield (P := Try.prog) (args := #[.string ⟨#[]⟩, .bool false]) h5 (by rw [hrec.out]; rfl)
    have hbg := run_beginRound (P := Try.prog) h5 (by rw [hrec.out]; rfl)
    rw [hrec.out] at hy
    refine ⟨_, _, _, _, hy, roundIn_of_wpIn trivial ?_⟩
    clear hy
    simp only [Nat.add_assoc, Nat.reduceAdd, recL, List.zip_toArray, List.zip_cons_cons, List.zip_nil_right, List.foldl_toArray, List.foldl_cons, List.foldl_nil, List.setIfInBounds_toArray, List.set_cons_succ, List.set_cons_zero]
    refine then_gen { tmps := #[.string (str n0), undef, .pointer (some ⟨w.heap.size, 0, none⟩), .pointer (some ⟨w.heap.size + 1, 0, none⟩), .pointer (some ⟨w.heap.size + 2, 0, none⟩), .string ⟨#[]⟩, .bool false, .string (str n0), .func (.func 69) #[] #[.pointer (some ⟨w.heap.size + 3, 0, none⟩)], .string ⟨#[]⟩, .bool false, undef, undef, undef, undef, undef, undef, undef, undef, undef, undef], defers := [] } W (fun K' hK' => ?_) ?_
    · gi_wp2
      exact hK'
    refine ⟨_, hbg, ?_⟩
    have hrb : ({ rec .ready none with state := .busy } : Loop) = rec .busy none := by rw [hrec.out]; rfl
    rw [hrb]
    have g2 := put_grown W (w.heap.size + 5) (.loop (rec .busy none))
    have l2 : (W.putObj (w.heap.size + 5) (.loop (rec .busy none))).heap[w.heap.size + 5]? = some (.loop (rec .busy none)) := World.putObj_heap_same (by omega)
    have hz2 : (W.putObj (w.heap.size + 5) (.loop (rec .busy none))).heap.size = W.heap.size := by simp
    obtain ⟨W2, hW2⟩ : ∃ W2, W2 = W.putObj (w.heap.size + 5) (.loop (rec .busy none)) := ⟨_, rfl⟩
    rw [← hW2] at g2 l2 hz2 ⊢
    clear hW2 hrb hbg
    have m3 := h3.grown g2 (by simp)
    have m4 := h4.grown g2 (by simp)
    have m6 := heap_kept h6 g2 (by simp)
    have b2 := h7.grown g2 (by omega) (fun g hg => by cases hg; omega)
    have c1 := m3.cell 0
    have f1 := m3.frozen 0
    have c2 := m4.cell 0
    have f2 := m4.frozen 0
    have H := hid (And.intro m3 (And.intro m4 (And.intro m6 (And.intro b2 (And.intro l2 hz2)))))
    clear g2 m3 m4 m6 b2 h1 h2 h3 h4 h5 h6 h7 l2 hz2
    gi_wp2
    obtain ⟨m3, m4, m6, b2, l2, hz2⟩ := H.out
    have k3 := (m3.set_ 0 (.slice none 0 0)).far (p := ⟨w.heap.size + 1, 0, none⟩) (by simp) (.int .i64 4)
    have k4 := (m4.far (p := ⟨w.heap.size, 0, none⟩) (by simp) (.slice none 0 0)).set_ 0 (.int .i64 4)
    have g3 : W2.grownBy (W2.setCell ⟨w.heap.size, 0, none⟩ (.slice none 0 0)) (some w.heap.size) := grownBy_setCell' W2 _ _
    have g4 : (W2.setCell ⟨w.heap.size, 0, none⟩ (.slice none 0 0)).grownBy ((W2.setCell ⟨w.heap.size, 0, none⟩ (.slice none 0 0)).setCell ⟨w.heap.size + 1, 0, none⟩ (.int .i64 4)) (some (w.heap.size + 1)) := grownBy_setCell' _ _ _
    have z3 := g3.size
    have z4 := g4.size
    have l4 := heap_kept (heap_kept l2 g3 (by simp)) g4 (by simp)
    have m64 := heap_kept (heap_kept m6 g3 (by simp)) g4 (by simp)
    have b4 := (b2.grown g3 (by omega) (fun g hg => by cases hg; omega)).grown g4 (by omega) (fun g hg => by cases hg; omega)
    refine ⟨_, _, run_endRound (some .ret) l4, rfl, ?_⟩
    have e3 : ({ rec .busy none with state := if (some Code.ret).isNone = true then .ready else .done, pending := some Code.ret } : Loop) = rec .done (some .ret) := by rw [hrec.out]; rfl
    rw [e3]
    generalize ((W2.setCell ⟨w.heap.size, 0, none⟩ (.slice none 0 0)).setCell ⟨w.heap.size + 1, 0, none⟩ (.int .i64 4)) = w6 at *
    have g7 := put_grown w6 (w.heap.size + 5) (.loop (rec .done (some .ret)))
    exact ⟨by simpa using k3.grown g7 (by simp), by simpa using k4.grown g7 (by simp), World.putObj_heap_same (by omega), heap_kept m64 g7 (by simp), b4.grown g7 (by omega) (fun g hg => by cases hg; omega)⟩
  case post =>
    clear J0 hc5 hf5 r1 r2 xw hzz k2 k3 k4 k5 xb hz
    simp only [Nat.add_assoc, Nat.reduceAdd]
    rintro e W' ⟨⟨v, rfl⟩, (⟨hn, hx⟩ | ⟨L, hL, hJ⟩)⟩
    · obtain ⟨x1, x2, x3, x4, x5⟩ := hx
      have hel : (Instr.endLoop (w.heap.size + 5)).run Try.prog W' = .ok (some .ret) (W'.putObj (w.heap.size + 5) (.loop (rec .exhausted (some .ret)))) := by
        have := run_endLoop (P := Try.prog) x3 (by rw [hrec.out]; intro h; cases h)
        rw [hrec.out] at this ⊢
        exact this
      have g7 := put_grown W' (w.heap.size + 5) (.loop (rec .exhausted (some .ret)))
      refine ⟨some .ret, _, hel, ?_⟩
      have y1 := x1.grown g7 (by simp)
      have y2 := x2.grown g7 (by simp)
      have y4 := heap_kept x4 g7 (by simp)
      have y5 := x5.grown g7 x5.size (fun g hg => by cases hg; omega)
      gi_wp2
      refine ⟨by simp, .inl ⟨_, _, rfl, run_takeDeferred y4, ?_⟩⟩
      have u1 := y1.grown (put_grown _ (w.heap.size + 4) (.deferred none)) (by simp)
      have u2 := y2.grown (put_grown _ (w.heap.size + 4) (.deferred none)) (by simp)
      have u5 := y5.grown (put_grown _ (w.heap.size + 4) (.deferred none)) y5.size (fun g hg => by cases hg; omega)
      have d1 := u1.cell 0
      have d2 := u2.cell 0
      refine ⟨.tuple #[.slice none 0 0, .int .i64 4], ?_, none, 0, ?_, ?_, u5⟩
      · simp [results, Try.results61, go_sem, d1, d2]
      · rw [labels_none hn]; rfl
      · rw [labels_none hn]; exact OwnG.nil _ _ _ _ _
    · obtain ⟨A, c, h1, h2, h3, h4, h5, h6, h7, h8⟩ := hJ
      have hel : (Instr.endLoop (w.heap.size + 5)).run Try.prog W' = .ok none (W'.putObj (w.heap.size + 5) (.loop (rec .exhausted none))) := by
        have := run_endLoop (P := Try.prog) h5 (by rw [hrec.out]; intro h; cases h)
        rw [hrec.out] at this ⊢
        exact this
      have g7 := put_grown W' (w.heap.size + 5) (.loop (rec .exhausted none))
      refine ⟨none, _, hel, ?_⟩
      have y1 := h1.grown g7 (by simp)
      have y2 := h2.grown g7 (fun b hb => by have := (h2.lt b hb).1; intro e; cases e; omega)
      have y3 := h3.grown g7 (by simp)
      have y4 := h4.grown g7 (by simp)
      have y6 := heap_kept h6 g7 (by simp)
      have y7 := h7.grown g7 h7.size (fun g hg => by cases hg; omega)
      have hz7 := g7.size
      generalize W'.putObj (w.heap.size + 5) (.loop (rec .exhausted none)) = W1 at *
      have d1 := y1.cell 0
      have d3 := y3.cell 0
      have f3 := y3.frozen 0
      have d4 := y4.cell 0
      have f4 := y4.frozen 0
      have hsz : (str n0).size = n0.length := str_size n0
      dsimp only
      obtain ⟨s, hs⟩ : ∃ s, s = str n0 := ⟨_, rfl⟩
      rw [← hs] at hsz ⊢
      have Y := hid (And.intro y1 (And.intro y2 (And.intro y3 (And.intro y4 (And.intro y6 (And.intro y7 hz7))))))
      clear y1 y2 y3 y4 y6 y7 hz7 h1 h2 h3 h4 h5 h6 h7 h8 hel g7 hs
      by_cases hlong : 255 < n0.length
      · have z1 : decide ((255 : Int) < (s.size : Int)) = true := by simp; omega
        have Z := hid hsz
        clear hsz
        gi_wp2
        obtain ⟨y1, y2, y3, y4, y6, y7, hz7⟩ := Y.out
        have v3 := (y3.set_ 0 (.slice none 0 0)).far (p := ⟨w.heap.size + 1, 0, none⟩) (by simp) (.int .i64 3)
        have v4 := (y4.far (p := ⟨w.heap.size, 0, none⟩) (by simp) (.slice none 0 0)).set_ 0 (.int .i64 3)
        have g3 : W1.grownBy (W1.setCell ⟨w.heap.size, 0, none⟩ (.slice none 0 0)) (some w.heap.size) := grownBy_setCell' W1 _ _
        have g4 : (W1.setCell ⟨w.heap.size, 0, none⟩ (.slice none 0 0)).grownBy ((W1.setCell ⟨w.heap.size, 0, none⟩ (.slice none 0 0)).setCell ⟨w.heap.size + 1, 0, none⟩ (.int .i64 3)) (some (w.heap.size + 1)) := grownBy_setCell' _ _ _
        have z3 := g3.size
        have z4 := g4.size
        have m6 := heap_kept (heap_kept y6 g3 (by simp)) g4 (by simp)
        have b4 := (y7.grown g3 (by have := y7.size; omega) (fun g hg => by cases hg; omega)).grown g4 (by have := y7.size; omega) (fun g hg => by cases hg; omega)
        refine ⟨by simp, .inl ⟨_, _, rfl, run_takeDeferred m6, ?_⟩⟩
        have u3 := v3.grown (put_grown _ (w.heap.size + 4) (.deferred none)) (by simp)
        have u4 := v4.grown (put_grown _ (w.heap.size + 4) (.deferred none)) (by simp)
        have u5 := b4.grown (put_grown _ (w.heap.size + 4) (.deferred none)) (by have := y7.size; omega) (fun g hg => by cases hg; omega)
        have d1 := u3.cell 0
        have d2 := u4.cell 0
        refine ⟨.tuple #[.slice none 0 0, .int .i64 3], ?_, none, 0, ?_, ?_, u5⟩
        · simp [results, Try.results61, go_sem] at d1 d2 ⊢
          simp [d1, d2]
        · rw [labels_long hL hlong]; rfl
        · rw [labels_long hL hlong]; exact OwnG.nil _ _ _ _ _
      · have z1 : decide ((255 : Int) < (s.size : Int)) = false := by simp; omega
        have Z := hid hsz
        clear hsz
        gi_wp2
        obtain ⟨y1, y2, y3, y4, y6, y7, hz7⟩ := Y.out
        have v3 := (y3.set_ 0 (.slice A L.length c)).far (p := ⟨w.heap.size + 1, 0, none⟩) (by simp) (.int .i64 0)
        have v4 := (y4.far (p := ⟨w.heap.size, 0, none⟩) (by simp) (.slice A L.length c)).set_ 0 (.int .i64 0)
        have g3 : W1.grownBy (W1.setCell ⟨w.heap.size, 0, none⟩ (.slice A L.length c)) (some w.heap.size) := grownBy_setCell' W1 _ _
        have g4 : (W1.setCell ⟨w.heap.size, 0, none⟩ (.slice A L.length c)).grownBy ((W1.setCell ⟨w.heap.size, 0, none⟩ (.slice A L.length c)).setCell ⟨w.heap.size + 1, 0, none⟩ (.int .i64 0)) (some (w.heap.size + 1)) := grownBy_setCell' _ _ _
        have z3 := g3.size
        have z4 := g4.size
        have m6 := heap_kept (heap_kept y6 g3 (by simp)) g4 (by simp)
        have b4 := (y7.grown g3 (by have := y7.size; omega) (fun g hg => by cases hg; omega)).grown g4 (by have := y7.size; omega) (fun g hg => by cases hg; omega)
        have o4 := (y2.far (p := ⟨w.heap.size, 0, none⟩) (by simp) (.slice A L.length c)).far (p := ⟨w.heap.size + 1, 0, none⟩) (by simp) (.int .i64 0)
        refine ⟨by simp, .inl ⟨_, _, rfl, run_takeDeferred m6, ?_⟩⟩
        have u3 := v3.grown (put_grown _ (w.heap.size + 4) (.deferred none)) (by simp)
        have u4 := v4.grown (put_grown _ (w.heap.size + 4) (.deferred none)) (by simp)
        have u5 := b4.grown (put_grown _ (w.heap.size + 4) (.deferred none)) (by have := y7.size; omega) (fun g hg => by cases hg; omega)
        have o5 := o4.grown (put_grown _ (w.heap.size + 4) (.deferred none)) (fun b hb => by have := (y2.lt b hb).1; intro e; cases e; omega)
        have d1 := u3.cell 0
        have d2 := u4.cell 0
        refine ⟨.tuple #[.slice A L.length c, .int .i64 0], ?_, A, c, ?_, ?_, u5⟩
        · simp [results, Try.results61, go_sem] at d1 d2 ⊢
          simp [d1, d2]
        · rw [labels_ok hL (by omega)]
        · rw [labels_ok hL (by omega)]; exact OwnG.mono o5 (by omega)
end Go.Proofs.Ytcddfenhkljpeaa

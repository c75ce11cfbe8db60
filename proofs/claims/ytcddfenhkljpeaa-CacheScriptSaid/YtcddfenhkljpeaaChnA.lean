import Derived.Test.YtcddfenhkljpeaaCsA
import Derived.Deep.QuietTactic
import Derived.BigQuiet
import Derived.BigRegion
import Derived.ProofKit
import Derived.LaidEqlPtr
/- Lists whose elements know their neighbours (chain): the ring in memory. -/
namespace Go.BK
open Go.RowKit
section
variable {w w' : World} {g h : Nat} {s t : TypeId} {cs ds : Array Value}
theorem blk_ne (hg : Blk w g s cs) (hh : Blk w h t ds) (ne : s ≠ t) : g ≠ h := by
  rintro rfl
  unfold Blk at hg hh
  rw [hg] at hh
  injection hh with hh
  injection hh with _ h2
  exact ne h2
theorem set_shy (b i : Nat) (v : Value) (w : World) : Shy (fun k => k = b) w (w.setCell ⟨b, i, none⟩ v) :=
  ⟨rfl, rfl, rfl, by simp [World.setCell], fun k _ hk => Below.heap_setCell _ _ _ _ (fun e => hk e)⟩
theorem shy_drewN {U : Nat → Prop} (w : World) (n : Nat) : Shy U w (w.drewN n) := ⟨rfl, rfl, rfl, Nat.le_refl _, fun _ _ _ => rfl⟩
theorem Blk.shy {U : Nat → Prop} (hg : Blk w g s cs) (hs : Shy U w w') (hn : ¬ U g) : Blk w' g s cs := (hs.block g hg.lt hn).trans hg
theorem Shy.set {U : Nat → Prop} (hs : Shy U w w') {b : Nat} (hb : b < w.heap.size → U b) (i : Nat) (v : Value) : Shy U w (w'.setCell ⟨b, i, none⟩ v) :=
  hs.trans (set_shy b i v w') fun k hk e => by subst e; exact hb hk
end
end Go.BK
namespace Go.Proofs.Ytcddfenhkljpeaa
open Go.BK Go.RowKit
set_option linter.unusedVariables false

abbrev pt (b : Nat) : Value := .pointer (some ⟨b, 0, none⟩)
/-- An element: its block, its value. -/
abbrev Elt := Nat × Value
def hdR (q : Nat) : List Elt → Nat
  | [] => q
  | x :: _ => x.1
def lsR (p : Nat) : List Elt → Nat
  | [] => p
  | x :: l => lsR x.1 l
/-- The elements from behind p up to q, of the list g. -/
def Seg (w : World) (g p q : Nat) : List Elt → Prop
  | [] => True
  | x :: l => Blk w x.1 108 #[x.2, pt p, pt (hdR q l), pt g] ∧ Seg w g x.1 q l
def RingB (w : World) (g : Nat) (l : List Elt) : Prop :=
  Blk w g 110 #[.nilIface, pt (lsR g l), pt (hdR g l), .pointer none, .int .i64 l.length] ∧ Seg w g g g l ∧ (l.map Prod.fst).Nodup ∧ l.length ≤ 1000000

theorem hdR_append (q : Nat) (a b : List Elt) : hdR q (a ++ b) = hdR (hdR q b) a := by cases a <;> rfl
theorem lsR_append (p : Nat) (a b : List Elt) : lsR p (a ++ b) = lsR (lsR p a) b := by
  induction a generalizing p with
  | nil => rfl
  | cons x a ih => exact ih x.1
theorem seg_append {w : World} {g p q : Nat} {a b : List Elt} : Seg w g p q (a ++ b) ↔ Seg w g p (hdR q b) a ∧ Seg w g (lsR p a) q b := by
  induction a generalizing p with
  | nil => simp [Seg, lsR]
  | cons x a ih => simp only [List.cons_append, Seg, lsR, ih, hdR_append, and_assoc]
theorem Seg.shy {U : Nat → Prop} {w w' : World} (hs : Shy U w w') {g q : Nat} {l : List Elt} : ∀ {p : Nat}, Seg w g p q l → (∀ x ∈ l, ¬ U x.1) → Seg w' g p q l := by
  induction l with
  | nil => intro _ _ _; trivial
  | cons x l ih => intro p h hU; exact ⟨h.1.shy hs (hU x (by simp)), ih h.2 fun y hy => hU y (by simp [hy])⟩
theorem Seg.lt {w : World} {g q : Nat} {l : List Elt} : ∀ {p : Nat}, Seg w g p q l → ∀ x ∈ l, x.1 < w.heap.size := by
  induction l with
  | nil => intro _ _ x hx; cases hx
  | cons y l ih =>
    intro p h x hx
    rcases List.mem_cons.1 hx with rfl | hx
    · exact h.1.lt
    · exact ih h.2 x hx
theorem Seg.blk {w : World} {g q : Nat} {l : List Elt} : ∀ {p : Nat}, Seg w g p q l → ∀ x ∈ l, ∃ a b, Blk w x.1 108 #[x.2, a, b, pt g] := by
  induction l with
  | nil => intro _ _ x hx; cases hx
  | cons y l ih =>
    intro p h x hx
    rcases List.mem_cons.1 hx with rfl | hx
    · exact ⟨_, _, h.1⟩
    · exact ih h.2 x hx
/-- Where p stands for g or the last one. -/
theorem lsR_mem (p : Nat) (l : List Elt) : (l = [] ∧ lsR p l = p) ∨ ∃ a x, l = a ++ [x] ∧ lsR p l = x.1 := by
  rcases List.eq_nil_or_concat l with rfl | ⟨a, x, rfl⟩
  · exact .inl ⟨rfl, rfl⟩
  · exact .inr ⟨a, x, by simp, by rw [List.concat_eq_append, lsR_append]; rfl⟩
theorem hdR_mem (q : Nat) (l : List Elt) : (l = [] ∧ hdR q l = q) ∨ ∃ x a, l = x :: a ∧ hdR q l = x.1 := by
  cases l with
  | nil => exact .inl ⟨rfl, rfl⟩
  | cons x a => exact .inr ⟨x, a, rfl, rfl⟩
theorem list_ne_elt : 110 ≠ 108 := by decide
section
variable {w : World} {g : Nat} {l : List Elt}
theorem RingB.shy {U : Nat → Prop} {w' : World} (h : RingB w g l) (hs : Shy U w w') (hg : ¬ U g) (hU : ∀ x ∈ l, ¬ U x.1) : RingB w' g l :=
  ⟨h.1.shy hs hg, Seg.shy hs h.2.1 hU, h.2.2⟩
theorem RingB.ext {w' : World} (h : RingB w g l) (hs : Ext w w') : RingB w' g l := h.shy (U := fun _ => False) (Shy.of_ext hs) id fun _ _ => id
theorem RingB.cells (h : RingB w g l) : w.cell? ⟨g, 0, none⟩ = some .nilIface ∧ w.cell? ⟨g, 1, none⟩ = some (pt (lsR g l)) ∧ w.cell? ⟨g, 2, none⟩ = some (pt (hdR g l)) ∧ w.cell? ⟨g, 3, none⟩ = some (.pointer none) ∧ w.cell? ⟨g, 4, none⟩ = some (.int .i64 l.length) ∧ ∀ i, w.frozen? ⟨g, i, none⟩ = false :=
  ⟨h.1.cell 0, h.1.cell 1, h.1.cell 2, h.1.cell 3, h.1.cell 4, h.1.frozen⟩
theorem RingB.ne (h : RingB w g l) {x : Elt} (hx : x ∈ l) : g ≠ x.1 := by
  obtain ⟨a, b, hb⟩ := h.2.1.blk x hx
  exact blk_ne h.1 hb list_ne_elt
theorem RingB.at_ {A B : List Elt} {x : Elt} (h : RingB w g (A ++ x :: B)) : Blk w x.1 108 #[x.2, pt (lsR g A), pt (hdR g B), pt g] ∧ Seg w g g x.1 A ∧ Seg w g x.1 g B := by
  have := seg_append.1 h.2.1
  exact ⟨this.2.1, this.1, this.2.2⟩
theorem RingB.le (h : RingB w g l) : l.length ≤ 1000000 := h.2.2.2
end

theorem info_elt : (Try.prog.info? 108).map (fun i => i.size) = some 4 := by kernel_rfl
theorem info_list : (Try.prog.info? 110).map (fun i => i.size) = some 5 := by kernel_rfl
theorem eq_elt_same (a : Addr) (w : World) : (binOp .eql 92 (.pointer (some a)) (.pointer (some a))).run Try.prog w = .ok (.bool true) w := by
  have h := info_elt
  rcases hi : Try.prog.info? 108 with _ | i
  · rw [hi] at h; cases h
  · exact run_eql_ptr_same w a Try.underlying92 hi
theorem eq_list_same (a : Addr) (w : World) : (binOp .eql 61 (.pointer (some a)) (.pointer (some a))).run Try.prog w = .ok (.bool true) w := by
  have h := info_list
  rcases hi : Try.prog.info? 110 with _ | i
  · rw [hi] at h; cases h
  · exact run_eql_ptr_same w a Try.underlying61 hi
theorem eq_elt_other {a b : Nat} {ta tb : TypeId} {ca cb : Array Value} {w : World} (ha : Blk w a ta ca) (hb : Blk w b tb cb) (hne : a ≠ b) : (binOp .eql 92 (.pointer (some ⟨a, 0, none⟩)) (.pointer (some ⟨b, 0, none⟩))).run Try.prog w = .ok (.bool false) w := by
  have h := info_elt
  rcases hi : Try.prog.info? 108 with _ | i
  · rw [hi] at h; cases h
  · rw [hi] at h
    simp at h
    exact run_eql_ptr_other w Try.underlying92 hi (by omega) (fun e => hne (congrArg Addr.block e)) ha hb

/-- The last one's next is another one now. -/
theorem Seg.end_ {w : World} {g q q' : Nat} {l : List Elt} {p : Nat} (h : Seg w g p q l) (hd : (l.map Prod.fst).Nodup) : Seg (w.setCell ⟨lsR p l, 2, none⟩ (pt q')) g p q' l := by
  rcases List.eq_nil_or_concat l with rfl | ⟨a, x, rfl⟩
  · trivial
  · rw [List.concat_eq_append] at h hd ⊢
    rw [lsR_append]
    simp only [lsR]
    rw [seg_append] at h ⊢
    simp only [hdR, Seg, and_true] at h ⊢
    refine ⟨Seg.shy (set_shy x.1 2 (pt q') w) h.1 ?_, h.2.set_ 2 _⟩
    rw [List.map_append, List.nodup_append] at hd
    intro y hy e
    exact hd.2.2 y.1 (List.mem_map_of_mem hy) x.1 (by simp) e
/-- The first one's neighbour ahead is another one now. -/
theorem Seg.begin_ {w : World} {g q : Nat} {l : List Elt} {p p' : Nat} (h : Seg w g p q l) (hd : (l.map Prod.fst).Nodup) : Seg (w.setCell ⟨hdR q l, 1, none⟩ (pt p')) g p' q l := by
  cases l with
  | nil => trivial
  | cons x a =>
    simp only [hdR, Seg] at h ⊢
    rw [List.map_cons, List.nodup_cons] at hd
    exact ⟨h.1.set_ 1 _, Seg.shy (set_shy x.1 1 (pt p') w) h.2 fun y hy e => hd.1 (e ▸ List.mem_map_of_mem hy)⟩
/-- An element is laid behind all others. -/
theorem ring_push {w : World} {g e : Nat} {v : Value} {l : List Elt} (h : RingB w g l) (he : Blk w e 108 #[v, pt (lsR g l), pt g, pt g]) (hn : e ∉ l.map Prod.fst) (hl : l.length < 1000000) :
    RingB (((w.setCell ⟨lsR g l, 2, none⟩ (pt e)).setCell ⟨g, 1, none⟩ (pt e)).setCell ⟨g, 4, none⟩ (.int .i64 (l.length + 1))) g (l ++ [(e, v)]) := by
  have hge : g ≠ e := blk_ne h.1 he list_ne_elt
  have hnd := h.2.2.1
  have hsep : ∀ x ∈ l, x.1 ≠ e := fun x hx e' => hn (e' ▸ List.mem_map_of_mem hx)
  refine ⟨?_, ?_, ?_, by simp; omega⟩
  · rcases List.eq_nil_or_concat l with rfl | ⟨a, x, rfl⟩
    · have := (((h.1.set_ 2 (pt e)).set_ 1 (pt e)).set_ 4 (.int .i64 (0 + 1)))
      simpa [lsR, hdR] using this
    · rw [List.concat_eq_append] at h ⊢
      have hx : g ≠ x.1 := h.ne (by simp)
      have e1 : lsR g (a ++ [x]) = x.1 := by rw [lsR_append]; rfl
      rw [e1]
      have := (((h.1.far (p := ⟨x.1, 2, none⟩) hx (pt e)).set_ 1 (pt e)).set_ 4 (.int .i64 ((a ++ [x]).length + 1)))
      have e2 : hdR g (a ++ [x]) = hdR g (a ++ [x] ++ [(e, v)]) := by rw [List.append_assoc]; cases a <;> rfl
      have e3 : lsR g (a ++ [x] ++ [(e, v)]) = e := by rw [lsR_append]; rfl
      rw [e3, ← e2]
      simpa [Int.add_assoc] using this
  · have hl1 : lsR g l ≠ e := by
      rcases lsR_mem g l with ⟨_, h1⟩ | ⟨a, x, h0, h1⟩
      · rw [h1]; exact hge
      · rw [h1]; exact hsep x (by rw [h0]; simp)
    rw [seg_append]
    simp only [hdR, Seg, and_true]
    refine ⟨?_, ?_⟩
    · have h1 := Seg.end_ (q' := e) h.2.1 hnd
      have h2 := Seg.shy (set_shy g 1 (pt e) _) h1 fun x hx => (h.ne hx).symm
      exact Seg.shy (set_shy g 4 (.int .i64 (l.length + 1)) _) h2 fun x hx => (h.ne hx).symm
    · exact (((he.far (p := ⟨lsR g l, 2, none⟩) (Ne.symm hl1) _).far (p := ⟨g, 1, none⟩) (Ne.symm hge) _)).far (p := ⟨g, 4, none⟩) (Ne.symm hge) _
  · rw [List.map_append, List.nodup_append]
    refine ⟨hnd, by simp, fun a ha b hb => ?_⟩
    simp at hb
    subst hb
    rintro rfl
    exact hn ha
/-- An element is taken out. -/
theorem ring_out {w : World} {g : Nat} {A B : List Elt} {x : Elt} (h : RingB w g (A ++ x :: B)) :
    RingB (((w.setCell ⟨lsR g A, 2, none⟩ (pt (hdR g B))).setCell ⟨hdR g B, 1, none⟩ (pt (lsR g A))).setCell ⟨g, 4, none⟩ (.int .i64 ((A ++ x :: B).length - 1))) g (A ++ B) ∧
    Blk (((w.setCell ⟨lsR g A, 2, none⟩ (pt (hdR g B))).setCell ⟨hdR g B, 1, none⟩ (pt (lsR g A))).setCell ⟨g, 4, none⟩ (.int .i64 ((A ++ x :: B).length - 1))) x.1 108 #[x.2, pt (lsR g A), pt (hdR g B), pt g] := by
  obtain ⟨hx, hA, hB⟩ := h.at_
  have hnd := h.2.2.1
  have hle := h.2.2.2
  have hgx : g ≠ x.1 := h.ne (by simp)
  have hgA : ∀ y ∈ A, g ≠ y.1 := fun y hy => h.ne (by simp [hy])
  have hgB : ∀ y ∈ B, g ≠ y.1 := fun y hy => h.ne (by simp [hy])
  rw [List.map_append, List.map_cons, List.nodup_append, List.nodup_cons] at hnd
  obtain ⟨nA, ⟨nx, nB⟩, nAB⟩ := hnd
  have hAx : ∀ y ∈ A, y.1 ≠ x.1 := fun y hy => nAB y.1 (List.mem_map_of_mem hy) x.1 (by simp)
  have hBx : ∀ y ∈ B, y.1 ≠ x.1 := fun y hy e => nx (e ▸ List.mem_map_of_mem hy)
  have hAB : ∀ y ∈ A, ∀ z ∈ B, y.1 ≠ z.1 := fun y hy z hz => nAB y.1 (List.mem_map_of_mem hy) z.1 (by simp; exact .inr ⟨_, hz⟩)
  have lsx : lsR g A ≠ x.1 := by
    rcases lsR_mem g A with ⟨_, h1⟩ | ⟨a, z, h0, h1⟩
    · rw [h1]; exact hgx
    · rw [h1]; exact hAx z (by rw [h0]; simp)
  have hdx : hdR g B ≠ x.1 := by
    rcases hdR_mem g B with ⟨_, h1⟩ | ⟨z, a, h0, h1⟩
    · rw [h1]; exact hgx
    · rw [h1]; exact hBx z (by rw [h0]; simp)
  have lsB : ∀ y ∈ B, lsR g A ≠ y.1 := by
    intro y hy
    rcases lsR_mem g A with ⟨_, h1⟩ | ⟨a, z, h0, h1⟩
    · rw [h1]; exact hgB y hy
    · rw [h1]; exact hAB z (by rw [h0]; simp) y hy
  have hdA : ∀ y ∈ A, hdR g B ≠ y.1 := by
    intro y hy
    rcases hdR_mem g B with ⟨_, h1⟩ | ⟨z, a, h0, h1⟩
    · rw [h1]; exact hgA y hy
    · rw [h1]; exact (hAB y hy z (by rw [h0]; simp)).symm
  refine ⟨⟨?_, ?_, ?_, ?_⟩, ?_⟩
  · have hg := h.1
    have e1 : lsR g (A ++ x :: B) = lsR x.1 B := by rw [lsR_append]; rfl
    have e2 : hdR g (A ++ x :: B) = hdR x.1 A := by rw [hdR_append]; rfl
    rw [e1, e2] at hg
    have e3 : lsR g (A ++ B) = lsR (lsR g A) B := lsR_append g A B
    have e4 : hdR g (A ++ B) = hdR (hdR g B) A := hdR_append g A B
    rw [e3, e4]
    have s1 : Blk (w.setCell ⟨lsR g A, 2, none⟩ (pt (hdR g B))) g 110 #[.nilIface, pt (lsR x.1 B), pt (hdR (hdR g B) A), .pointer none, .int .i64 (A ++ x :: B).length] := by
      rcases lsR_mem g A with ⟨h0, h1⟩ | ⟨a, z, h0, h1⟩
      · subst h0
        have := hg.set_ 2 (pt (hdR g B))
        simpa [lsR, hdR] using this
      · rw [h1]
        have hz := hgA z (by rw [h0]; simp)
        have e5 : hdR (hdR g B) A = hdR x.1 A := by rw [h0]; cases a <;> rfl
        rw [e5]
        exact hg.far (p := ⟨z.1, 2, none⟩) hz _
    have s2 : Blk ((w.setCell ⟨lsR g A, 2, none⟩ (pt (hdR g B))).setCell ⟨hdR g B, 1, none⟩ (pt (lsR g A))) g 110 #[.nilIface, pt (lsR (lsR g A) B), pt (hdR (hdR g B) A), .pointer none, .int .i64 (A ++ x :: B).length] := by
      rcases hdR_mem g B with ⟨h0, h1⟩ | ⟨z, a, h0, h1⟩
      · rw [h1] at s1 ⊢
        subst h0
        have := s1.set_ 1 (pt (lsR g A))
        simpa [lsR, hdR] using this
      · rw [h1] at s1 ⊢
        have hz := hgB z (by rw [h0]; simp)
        have e5 : lsR (lsR g A) B = lsR x.1 B := by rw [h0]; rfl
        rw [e5]
        exact s1.far (p := ⟨z.1, 1, none⟩) hz _
    have s3 := s2.set_ 4 (.int .i64 ((A ++ x :: B).length - 1))
    have e6 : (((A ++ x :: B).length : Int) - 1) = ((A ++ B).length : Int) := by simp; omega
    rw [e6] at s3 ⊢
    simpa using s3
  · rw [seg_append]
    constructor
    · have h1 := Seg.end_ (q' := hdR g B) hA nA
      have h2 := Seg.shy (set_shy (hdR g B) 1 (pt (lsR g A)) _) h1 fun y hy => (hdA y hy).symm
      exact Seg.shy (set_shy g 4 _ _) h2 fun y hy => (hgA y hy).symm
    · have h1 := Seg.shy (set_shy (lsR g A) 2 (pt (hdR g B)) w) hB fun y hy => (lsB y hy).symm
      have h2 := Seg.begin_ (p' := lsR g A) h1 nB
      exact Seg.shy (set_shy g 4 _ _) h2 fun y hy => (hgB y hy).symm
  · rw [List.map_append, List.nodup_append]
    exact ⟨nA, nB, fun a ha b hb => nAB a ha b (by simp at hb ⊢; exact .inr hb)⟩
  · simp at hle ⊢; omega
  · exact (((hx.far (p := ⟨lsR g A, 2, none⟩) (Ne.symm lsx) _).far (p := ⟨hdR g B, 1, none⟩) (Ne.symm hdx) _)).far (p := ⟨g, 4, none⟩) (Ne.symm hgx) _
end Go.Proofs.Ytcddfenhkljpeaa

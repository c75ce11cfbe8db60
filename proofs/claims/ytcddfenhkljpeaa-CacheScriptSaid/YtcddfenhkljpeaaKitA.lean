import Derived.WalkKit
import Derived.WalkSpells
import Derived.WalkSmall
import Derived.WalkLawsBesides
import Derived.Deep.Draws
/- Words for slices in memory: what a slice reads as, what the call itself owns; plain lemmas over any program. -/
namespace Go.BK
open Go.RowKit

theorem hid {p : Prop} (h : p) : Hid p := h

abbrev Ext (w w' : World) : Prop := Below w.heap.size w w'
theorem ext_trans {a b c : World} (h : Ext a b) (k : Ext b c) : Ext a c := Below.trans h (k.mono h.size)
theorem ext_refl (w : World) : Ext w w := Below.refl _ _

/-- The slice value '.slice A n c' reads as the cells xs, 'size' cells an element. -/
def RdG (w : World) (size : Nat) (A : Option Addr) (n c : Nat) (xs : List Value) : Prop :=
  xs.length = n * size ∧ n ≤ c ∧ c ≤ maxLen ∧
  (0 < n → ∃ b o, A = some ⟨b, o, none⟩ ∧ b < w.heap.size ∧ ∀ j u, xs[j]? = some u → w.cell? ⟨b, o + j, none⟩ = some u)

/-- The slice value '.slice A n c' reads as the cells xs, at the head of a block of its own from 'base' on, whose cells all are 'ok', none frozen. -/
def OwnG (ok : Value → Prop) (w : World) (base : Nat) (e : TypeId) (size : Nat) (A : Option Addr) (n c : Nat) (xs : List Value) : Prop :=
  (A = none ∧ n = 0 ∧ c = 0 ∧ xs = []) ∨
  ∃ g full, A = some ⟨g, 0, none⟩ ∧ base ≤ g ∧ w.heap[g]? = some (.cells (List.toArray full) e (0, 0)) ∧ full.length = c * size ∧ n ≤ c ∧ c ≤ maxLen ∧ full.take (n * size) = xs ∧ ∀ u ∈ full, ok u

def blk (A : Option Addr) : Option Nat := A.map Addr.block
@[simp] theorem blk_none : blk none = none := rfl
@[simp] theorem blk_some (a : Addr) : blk (some a) = some a.block := rfl

theorem mapAdd_zero (A : Option Addr) : A.map (·.add 0) = A := by cases A <;> simp [Addr.add]
theorem addr_add (b o n : Nat) : (⟨b, o, none⟩ : Addr).add n = ⟨b, o + n, none⟩ := Addr.add_lit b o n

section
variable {ok : Value → Prop} {w w' : World} {base size : Nat} {e : TypeId} {A : Option Addr} {n c : Nat} {xs : List Value}

theorem OwnG.rd (h : OwnG ok w base e size A n c xs) : RdG w size A n c xs := by
  rcases h with ⟨rfl, rfl, rfl, rfl⟩ | ⟨g, full, rfl, hb, hg, hf, hn, hc, ht, _⟩
  · exact ⟨by simp, Nat.le_refl _, by simp [maxLen], fun h => by omega⟩
  · have hle : n * size ≤ c * size := Nat.mul_le_mul_right _ hn
    refine ⟨by rw [← ht, List.length_take]; omega, hn, hc, fun h0 => ⟨g, 0, rfl, (Array.getElem?_eq_some_iff.1 hg).1, fun i u hi => ?_⟩⟩
    rw [cell_of_row w g (0 + i) _ e (0, 0) hg]
    rw [← ht, List.getElem?_take] at hi
    split at hi
    · simpa using hi
    · cases hi

theorem RdG.ext (h : RdG w size A n c xs) (hb : Ext w w') : RdG w' size A n c xs := by
  refine ⟨h.1, h.2.1, h.2.2.1, fun h0 => ?_⟩
  obtain ⟨b, o, hA, hlt, hc⟩ := h.2.2.2 h0
  exact ⟨b, o, hA, Nat.lt_of_lt_of_le hlt hb.size, fun i u hi => (hb.cell (p := ⟨b, o + i, none⟩) hlt).trans (hc i u hi)⟩

theorem RdG.grown {row : Option Nat} (h : RdG w size A n c xs) (hg : w.grownBy w' row) (hne : 0 < n → blk A ≠ row) : RdG w' size A n c xs := by
  refine ⟨h.1, h.2.1, h.2.2.1, fun h0 => ?_⟩
  obtain ⟨b, o, rfl, hlt, hc⟩ := h.2.2.2 h0
  exact ⟨b, o, rfl, Nat.lt_of_lt_of_le hlt hg.size, fun i u hi => (World.cell?_of_block (hg.block b hlt (hne h0))).trans (hc i u hi)⟩

theorem RdG.lt (h : RdG w size A n c xs) (h0 : 0 < n) : ∃ b, blk A = some b ∧ b < w.heap.size := by
  obtain ⟨b, o, rfl, hlt, _⟩ := h.2.2.2 h0
  exact ⟨b, rfl, hlt⟩

theorem RdG.cap (h : RdG w size A n c xs) : n ≤ c ∧ c ≤ maxLen := ⟨h.2.1, h.2.2.1⟩
theorem RdG.n_le (h : RdG w size A n c xs) : n ≤ 9223372036854775807 := by have := h.2.1; have := h.2.2.1; unfold maxLen at *; omega
theorem RdG.c_le (h : RdG w size A n c xs) : c ≤ 9223372036854775807 := by have := h.2.2.1; unfold maxLen at *; omega

theorem RdG.none_ (w : World) (size : Nat) : RdG w size none 0 0 [] := ⟨by simp, Nat.le_refl _, by simp [maxLen], fun h => by omega⟩

theorem RdG.zero (w : World) (size : Nat) (A : Option Addr) (c : Nat) (hc : c ≤ maxLen) : RdG w size A 0 c [] := ⟨by simp, Nat.zero_le _, hc, fun h => by omega⟩

/-- A cell of an index. -/
theorem RdG.at_ (h : RdG w 1 A n c xs) {k : Nat} (hk : k < n) : ∃ b o, A = some ⟨b, o, none⟩ ∧ b < w.heap.size ∧ w.cell? ⟨b, o + k, none⟩ = some (xs.getD k undef) := by
  obtain ⟨b, o, hA, hlt, hc⟩ := h.2.2.2 (by omega)
  have hl : k < xs.length := by have := h.1; omega
  exact ⟨b, o, hA, hlt, by rw [hc k _ (List.getElem?_eq_getElem hl)]; simp [hl]⟩

theorem OwnG.lt (h : OwnG ok w base e size A n c xs) : ∀ b, blk A = some b → base ≤ b ∧ b < w.heap.size := by
  intro b hb
  rcases h with ⟨rfl, _⟩ | ⟨g, full, rfl, hbg, hgg, _⟩
  · cases hb
  · injection hb with hb; subst hb
    exact ⟨hbg, (Array.getElem?_eq_some_iff.1 hgg).1⟩

theorem OwnG.grown {row : Option Nat} (h : OwnG ok w base e size A n c xs) (hg : w.grownBy w' row) (hne : ∀ b, blk A = some b → some b ≠ row) : OwnG ok w' base e size A n c xs := by
  rcases h with h | ⟨g, full, rfl, hb, hgg, r⟩
  · exact .inl h
  · exact .inr ⟨g, full, rfl, hb, (hg.block g (Array.getElem?_eq_some_iff.1 hgg).1 (hne _ rfl)).trans hgg, r⟩

theorem OwnG.ext (h : OwnG ok w base e size A n c xs) (hb : Ext w w') : OwnG ok w' base e size A n c xs := by
  rcases h with h | ⟨g, full, hA, hbg, hgg, r⟩
  · exact .inl h
  · exact .inr ⟨g, full, hA, hbg, (hb.block g (Array.getElem?_eq_some_iff.1 hgg).1).trans hgg, r⟩

theorem OwnG.mono {base' : Nat} (h : OwnG ok w base e size A n c xs) (hb : base' ≤ base) : OwnG ok w base' e size A n c xs := by
  rcases h with h | ⟨g, full, hA, hbg, r⟩
  · exact .inl h
  · exact .inr ⟨g, full, hA, Nat.le_trans hb hbg, r⟩

theorem OwnG.nil (ok : Value → Prop) (w : World) (base : Nat) (e : TypeId) (size : Nat) : OwnG ok w base e size none 0 0 [] := .inl ⟨rfl, rfl, rfl, rfl⟩

/-- All up to the capacity. -/
theorem OwnG.full (h : OwnG ok w base e size A n c xs) : ∃ full, OwnG ok w base e size A c c full ∧ full.length = c * size ∧ full.take (n * size) = xs ∧ ∀ u ∈ full, ok u := by
  rcases h with ⟨rfl, rfl, rfl, rfl⟩ | ⟨g, full, rfl, hb, hg, hf, hn, hc, ht, hok⟩
  · exact ⟨[], .inl ⟨rfl, rfl, rfl, rfl⟩, by simp, by simp, by simp⟩
  · exact ⟨full, .inr ⟨g, full, rfl, hb, hg, hf, Nat.le_refl _, hc, by rw [List.take_of_length_le (by omega)], hok⟩, hf, ht, hok⟩

theorem OwnG.shrink (h : OwnG ok w base e size A n c xs) (m : Nat) (hm : m ≤ n) : OwnG ok w base e size A m c (xs.take (m * size)) := by
  rcases h with ⟨rfl, rfl, rfl, rfl⟩ | ⟨g, full, rfl, hb, hg, hf, hn, hc, ht, hok⟩
  · exact .inl ⟨rfl, by omega, rfl, by simp⟩
  · refine .inr ⟨g, full, rfl, hb, hg, hf, by omega, hc, ?_, hok⟩
    rw [← ht, List.take_take, Nat.min_eq_left (Nat.mul_le_mul_right _ hm)]

/-- A block made whole. -/
theorem OwnG.new (w : World) (cs : List Value) (n c : Nat) (hb : base ≤ w.heap.size) (hl : cs.length = c * size) (hn : n ≤ c) (hc : c ≤ maxLen) (hok : ∀ u ∈ cs, ok u) :
    OwnG ok (w.alloc (.cells cs.toArray e)) base e size (some ⟨w.heap.size, 0, none⟩) n c (cs.take (n * size)) :=
  .inr ⟨w.heap.size, cs, rfl, hb, heap_alloc_new w _, hl, hn, hc, rfl, hok⟩

/-- A cut 'b[i:j]' of what is read. -/
theorem RdG.cut (h : RdG w size A n c xs) {i j : Nat} (hij : i ≤ j) (hj : j ≤ n) {A' : Option Addr} (hA : i < j → A' = A.map (·.add (i * size))) : RdG w size A' (j - i) (c - i) ((xs.take (j * size)).drop (i * size)) := by
  have hle : j * size ≤ n * size := Nat.mul_le_mul_right _ hj
  refine ⟨by rw [List.length_drop, List.length_take, h.1, Nat.min_eq_left hle, Nat.sub_mul], by have := h.2.1; omega, by have := h.2.2.1; unfold maxLen at *; omega, fun h0 => ?_⟩
  have hlt : i < j := by omega
  obtain ⟨b, o, rfl, hb, hc⟩ := h.2.2.2 (by omega)
  rw [hA hlt]
  refine ⟨b, o + i * size, by simp [Addr.add_lit], hb, fun k u hk => ?_⟩
  rw [show o + i * size + k = o + (i * size + k) from by omega]
  rw [List.getElem?_drop, List.getElem?_take] at hk
  split at hk
  · exact hc _ _ hk
  · cases hk

/-- A store at an index of what is owned (elements of one cell). -/
theorem OwnG.set (h : OwnG ok w base e 1 A n c xs) {k : Nat} (_hk : k < c) {v : Value} (hv : ok v) {g : Nat} (hA : A = some ⟨g, 0, none⟩) :
    OwnG ok (w.setCell ⟨g, k, none⟩ v) base e 1 A n c (xs.set k v) := by
  subst hA
  rcases h with ⟨h, _⟩ | ⟨g', full, hA, hb, hg, hf, hn, hc, ht, hok⟩
  · cases h
  · injection hA with hA; injection hA with hA; subst hA
    refine .inr ⟨g, full.set k v, rfl, hb, ?_, by simp [hf], hn, hc, ?_, ?_⟩
    · simp [World.setCell, Array.getElem?_modify, hg]
    · rw [← ht, List.take_set]
    · intro u hu
      rcases List.mem_or_eq_of_mem_set hu with h | rfl
      · exact hok u h
      · exact hv

theorem OwnG.frozen (h : OwnG ok w base e size A n c xs) {g : Nat} (hA : A = some ⟨g, 0, none⟩) (i : Nat) : w.frozen? ⟨g, i, none⟩ = false := by
  subst hA
  rcases h with ⟨h, _⟩ | ⟨g', full, hA, hb, hg, _⟩
  · cases h
  · injection hA with hA; injection hA with hA; subst hA
    simp [World.frozen?, hg]

/-- A store below what is owned. -/
theorem OwnG.far (h : OwnG ok w base e size A n c xs) {p : Addr} (hp : p.block < base) (u : Value) : OwnG ok (w.setCell p u) base e size A n c xs := by
  rcases h with h | ⟨g, full, hA, hbg, hgg, r⟩
  · exact .inl h
  · exact .inr ⟨g, full, hA, hbg, (Below.heap_setCell w p u g (by omega)).trans hgg, r⟩

theorem OwnG.head (h : OwnG ok w base e size A n c xs) (hc : 0 < c) : ∃ g, A = some ⟨g, 0, none⟩ ∧ base ≤ g ∧ g < w.heap.size := by
  rcases h with ⟨_, _, rfl, _⟩ | ⟨g, full, hA, hb, hg, _⟩
  · omega
  · exact ⟨g, hA, hb, (Array.getElem?_eq_some_iff.1 hg).1⟩

theorem grown_of_set {a : World} {g : Nat} {row : Option Nat} (h : a.grownBy w row) (hr : row = some g ∨ a.heap.size ≤ g) (k : Nat) (v : Value) : a.grownBy (w.setCell ⟨g, k, none⟩ v) row :=
  ⟨h.os, h.tape, h.output, by simpa [World.setCell] using h.size, fun i hi hne => (Below.heap_setCell w ⟨g, k, none⟩ v i (by
    rintro rfl
    rcases hr with hr | hr
    · exact hne hr.symm
    · omega)).trans (h.block i hi hne)⟩

theorem grown_trans {a b c : World} {row : Option Nat} (h : a.grownBy b row) (k : b.grownBy c row) : a.grownBy c row :=
  ⟨k.os.trans h.os, k.tape.trans h.tape, k.output.trans h.output, Nat.le_trans h.size k.size, fun i hi hn => (k.block i (Nat.lt_of_lt_of_le hi h.size) hn).trans (h.block i hi hn)⟩
theorem grown_of_ext {a b : World} (h : Ext a b) (row : Option Nat) : a.grownBy b row := ⟨h.os, h.tape, h.output, h.size, fun i hi _ => h.block i hi⟩
theorem grown_refl (a : World) (row : Option Nat) : a.grownBy a row := ⟨rfl, rfl, rfl, Nat.le_refl _, fun _ _ _ => rfl⟩
/-- What was written is new: all that was there is as it was. -/
theorem below_of_grown {B : Nat} {a b c : World} {row : Option Nat} (h : Below B a b) (hB : B ≤ b.heap.size) (k : b.grownBy c row) (hr : ∀ g, row = some g → B ≤ g) : Below B a c := h.grown k hB hr
theorem grown_more {a b c : World} {row row' : Option Nat} (h : a.grownBy b row) (k : b.grownBy c row') (hr : ∀ g, row' = some g → row = some g ∨ a.heap.size ≤ g) : a.grownBy c row :=
  ⟨k.os.trans h.os, k.tape.trans h.tape, k.output.trans h.output, Nat.le_trans h.size k.size, fun i hi hn => (k.block i (Nat.lt_of_lt_of_le hi h.size) (fun e => by
    rcases hr i e.symm with h1 | h1
    · exact hn h1.symm
    · omega)).trans (h.block i hi hn)⟩

end

/-! ### a block that is known whole -/
def Blk (w : World) (g : Nat) (t : TypeId) (cs : Array Value) : Prop := w.heap[g]? = some (.cells cs t (0, 0))
section
variable {w w' : World} {g : Nat} {t : TypeId} {cs : Array Value}
theorem Blk.lt (h : Blk w g t cs) : g < w.heap.size := (Array.getElem?_eq_some_iff.1 h).1
theorem Blk.cell (h : Blk w g t cs) (i : Nat) : w.cell? ⟨g, i, none⟩ = cs[i]? := cell_of_row w g i cs t (0, 0) h
theorem Blk.frozen (h : Blk w g t cs) (i : Nat) : w.frozen? ⟨g, i, none⟩ = false := by
  unfold Blk at h
  simp [World.frozen?, h]
theorem Blk.new (w : World) (t : TypeId) (cs : Array Value) : Blk (w.alloc (.cells cs t)) w.heap.size t cs := heap_alloc_new w _
theorem Blk.drew (h : Blk w g t cs) : Blk w.drew g t cs := h
theorem Blk.drewN (h : Blk w g t cs) (n : Nat) : Blk (w.drewN n) g t cs := h
theorem Blk.alloc (h : Blk w g t cs) (o : Obj) : Blk (w.alloc o) g t cs := (Below.heap_alloc w o g h.lt).trans h
theorem Blk.set_ (h : Blk w g t cs) (i : Nat) (u : Value) : Blk (w.setCell ⟨g, i, none⟩ u) g t (cs.setIfInBounds i u) := by
  unfold Blk at h ⊢
  simp [World.setCell, Array.getElem?_modify, h]
theorem Blk.far (h : Blk w g t cs) {p : Addr} (hp : g ≠ p.block) (u : Value) : Blk (w.setCell p u) g t cs := (Below.heap_setCell w p u g hp).trans h
theorem Blk.below {B : Nat} (h : Blk w g t cs) (hb : Below B w w') (hg : g < B) : Blk w' g t cs := (hb.block g hg).trans h
theorem Blk.ext (h : Blk w g t cs) (hb : Ext w w') : Blk w' g t cs := h.below hb h.lt
theorem Blk.grown {row : Option Nat} (h : Blk w g t cs) (hb : w.grownBy w' row) (hg : some g ≠ row) : Blk w' g t cs := (hb.block g h.lt hg).trans h
theorem Blk.one {a : Value} (h : Blk w g t #[a]) : w.cell? ⟨g, 0, none⟩ = some a ∧ ∀ i, w.frozen? ⟨g, i, none⟩ = false := ⟨h.cell 0, h.frozen⟩
theorem Blk.two {a b : Value} (h : Blk w g t #[a, b]) : w.cell? ⟨g, 0, none⟩ = some a ∧ w.cell? ⟨g, 1, none⟩ = some b ∧ ∀ i, w.frozen? ⟨g, i, none⟩ = false := ⟨h.cell 0, h.cell 1, h.frozen⟩
/-- What the walk wants of it. -/
theorem Blk.rules (h : Blk w g t cs) : (∀ i, w.cell? ⟨g, i, none⟩ = cs[i]?) ∧ (∀ i, w.frozen? ⟨g, i, none⟩ = false) := ⟨h.cell, h.frozen⟩
end

section
variable {P : Program} {w : World}

theorem mem_zeroCells {z : Value} (hz : z.cells = #[z]) (k : Nat) : ∀ u ∈ (Builtin.zeroCells z.cells k).toList, u = z := by
  intro u hu
  rw [hz] at hu
  simp [Builtin.zeroCells] at hu
  obtain ⟨_, _, rfl⟩ := hu
  simp [Nat.mod_one]

theorem mem_zeroCells_any {zs : Array Value} (k : Nat) : ∀ u ∈ (Builtin.zeroCells zs k).toList, u ∈ zs.toList := by
  intro u hu
  simp only [Builtin.zeroCells, Array.toList_map, List.mem_map, Array.toList_range, List.mem_range] at hu
  obtain ⟨i, hi, rfl⟩ := hu
  have hp : 0 < zs.size := by
    rcases Nat.eq_zero_or_pos zs.size with h | h
    · rw [h] at hi; omega
    · exact h
  have := Nat.mod_lt i hp
  rw [getElem!_pos zs _ this]
  simp

theorem wpList_wanted {ops : Array Oper} {rest : List Oper} {o : Oper} {a : Act} {Q : Exit → Act → World → Prop} (hw : Region.wanted o (yielded ops a.tmps) = true)
    (h : ∀ K : Act → World → Prop, (∀ a w, wpList P ops Q rest a w → K a w) → o.wp P a w K Q) : wpList P ops Q (o :: rest) a w :=
  wpList_step fun K hK => by rw [if_pos hw]; exact h K hK

/-- 'append(s, x...)': s the call's own, x whatever reads. -/
theorem run_append_g {ok : Value → Prop} (base : Nat) (t ty e : TypeId) (i : TypeInfo) (z : Value) (size bytes : Nat) (ht : P.underlying t = some (.slice e)) (hi : P.info? e = some i) (hz : i.zero = some z)
    (hsize : i.size = size) (hby : i.bytes = bytes) (hzs : z.cells.size = size) (hsz : 0 < size) (hzok : ∀ u ∈ z.cells.toList, ok u) (hok1 : ∀ u, ok u → u.oneCell' = true)
    {A : Option Addr} {n c : Nat} {xs : List Value} (hown : OwnG ok w base e size A n c xs)
    {A2 : Option Addr} {m c2 : Nat} {news : List Value} (hr : RdG w size A2 m c2 news) (hnok : ∀ u ∈ news, ok u)
    (hbytes : (n + m) * bytes ≤ 140737488355328) (h63 : n + m ≤ maxLen) (hbase : base ≤ w.heap.size) :
    ∃ A' c' w', (Builtin.append_ #[t, t] ty #[.slice A n c, .slice A2 m c2]).run P w = .ok (.slice A' (n + m) c') w' ∧ OwnG ok w' base e size A' (n + m) c' (xs ++ news) ∧ w.grownBy w' (blk A) ∧
      (A' = A ∨ A' = some ⟨w.heap.size, 0, none⟩) := by
  subst hsize
  subst hby
  have hsmall : n + m ≤ 9223372036854775807 := by simp only [maxLen] at h63; omega
  have hxl : xs.length = n * i.size := hown.rd.1
  have hnl : news.length = m * i.size := hr.1
  have hxok : ∀ u ∈ xs, ok u := by
    rcases hown with ⟨_, _, _, rfl⟩ | ⟨_, full, _, _, _, _, _, _, ht, hok⟩
    · simp
    · intro u hu; rw [← ht] at hu; exact hok u (List.mem_of_mem_take hu)
  by_cases hm : m = 0
  · subst hm
    have hn0 : news = [] := List.eq_nil_of_length_eq_zero (by simpa using hnl)
    subst hn0
    refine ⟨A, c, w, ?_, by simpa using hown, grown_refl _ _, .inl rfl⟩
    have hnc : n ≤ c := hown.rd.2.1
    rcases A2 with _ | ad
    · rcases A with _ | g
      · simp [Builtin.append_, run_underlying ht, sizeOf, typeInfo, hi, Builtin.lenOf, Builtin.firstCells, hnc]
      · simp [Builtin.append_, run_underlying ht, sizeOf, typeInfo, hi, Builtin.lenOf, Builtin.firstCells, hnc, storeCells]
    · rcases A with _ | g
      · simp [Builtin.append_, run_underlying ht, sizeOf, typeInfo, hi, Builtin.lenOf, Builtin.firstCells, hnc, loadCells, loadCellsFrom]
      · simp [Builtin.append_, run_underlying ht, sizeOf, typeInfo, hi, Builtin.lenOf, Builtin.firstCells, hnc, storeCells, loadCells, loadCellsFrom]
  · obtain ⟨b, o, rfl, _, hcell⟩ := hr.2.2.2 (by omega)
    have hnews : ∀ j u, news[j]? = some u → w.cell? ((⟨b, o, none⟩ : Addr).add j) = some u := fun j u hj => by rw [Addr.add_lit]; exact hcell j u hj
    have hnew1 : ∀ u ∈ news, u.oneCell' = true := fun u hu => hok1 u (hnok u hu)
    have grown : ∀ old : Nat, old < n + m → ∀ row : Option Nat,
        OwnG ok (w.drew.alloc (.cells (xs.toArray ++ news.toArray ++ Builtin.zeroCells z.cells (grownCap w (n + m) old e - (n + m))) e)) base e i.size (some ⟨w.heap.size, 0, none⟩) (n + m) (grownCap w (n + m) old e) (xs ++ news) ∧
        w.grownBy (w.drew.alloc (.cells (xs.toArray ++ news.toArray ++ Builtin.zeroCells z.cells (grownCap w (n + m) old e - (n + m))) e)) row := by
      intro old ho row
      have hge := grownCap_ge w (n + m) old e
      have hcm : grownCap w (n + m) old e ≤ maxLen := grownCap_le_maxLen w (n + m) old e h63
      have hlen : (xs ++ news).length = (n + m) * i.size := by rw [List.length_append, hxl, hnl, Nat.add_mul]
      refine ⟨.inr ⟨w.heap.size, xs ++ news ++ (Builtin.zeroCells z.cells (grownCap w (n + m) old e - (n + m))).toList, rfl, hbase, ?_, ?_, hge, hcm, ?_, ?_⟩, ⟨rfl, rfl, rfl, by simp, fun k hk _ => Below.heap_alloc w.drew _ k hk⟩⟩
      · have := heap_alloc_new w.drew (.cells (xs.toArray ++ news.toArray ++ Builtin.zeroCells z.cells (grownCap w (n + m) old e - (n + m))) e)
        refine (show _ = _ from this).trans ?_
        simp
      · rw [List.length_append, hlen, Array.length_toList, size_zeroCells, hzs, ← Nat.add_mul]
        congr 1; omega
      · rw [← hlen]; exact List.take_left
      · intro u hu
        rw [List.mem_append, List.mem_append] at hu
        rcases hu with (hu | hu) | hu
        · exact hxok u hu
        · exact hnok u hu
        · exact hzok u (mem_zeroCells_any _ u hu)
    rcases hown with ⟨rfl, rfl, rfl, rfl⟩ | ⟨g, full, rfl, hbg, hg, hfl, hnc, hcm, htake, hok⟩
    · have hr := run_append_nil (P := P) w t ty e i z ht hi hz ⟨b, o, none⟩ m c2 news hnl hnews (by omega) (by omega) (by have hb := hbytes; simp only [Nat.zero_add] at hb; omega)
      have hgr := grown 0 (by omega) none
      simp only [Nat.zero_add, List.nil_append, Array.empty_append] at hgr ⊢
      exact ⟨_, _, _, hr, by simpa using hgr.1, hgr.2, .inr rfl⟩
    · by_cases hroom : n + m ≤ c
      · have hsize : n * i.size + news.length ≤ full.length := by rw [hnl, hfl, ← Nat.add_mul]; exact Nat.mul_le_mul_right _ hroom
        have hr := run_append_room (P := P) w t ty e i ht hi g n c full.toArray hg ⟨b, o, none⟩ m c2 news hnl hnews hnew1 hroom (by simpa using hsize)
        refine ⟨_, _, _, hr, .inr ⟨g, full.take (n * i.size) ++ news ++ full.drop (n * i.size + news.length), rfl, hbg, ?_, ?_, hroom, hcm, ?_, ?_⟩, ⟨rfl, rfl, rfl, by simp, fun k _ hk => setRow_other w g k _ (fun e => hk (by simp [e]))⟩, .inl rfl⟩
        · exact setRow_heap w g _ _ e _ hg
        · simp only [List.length_append, List.length_take, List.length_drop]; omega
        · rw [htake, show (n + m) * i.size = (xs ++ news).length from by rw [List.length_append, hxl, hnl, Nat.add_mul]]
          exact List.take_left
        · intro u hu
          rw [List.mem_append, List.mem_append] at hu
          rcases hu with (hu | hu) | hu
          · exact hok u (List.mem_of_mem_take hu)
          · exact hnok u hu
          · exact hok u (List.mem_of_mem_drop hu)
      · have holds : ∀ j u, xs[j]? = some u → w.cell? ((⟨g, 0, none⟩ : Addr).add j) = some u := by
          intro j u hj
          rw [Addr.add_lit, cell_of_row w g (0 + j) _ e (0, 0) hg]
          rw [← htake, List.getElem?_take] at hj
          split at hj
          · simpa using hj
          · cases hj
        have hr := run_append_grow (P := P) w t ty e i z ht hi hz ⟨g, 0, none⟩ n c xs hxl holds ⟨b, o, none⟩ m c2 news hnl hnews (by omega) (by omega) (growslice_fits (by omega) hbytes)
        have hgr := grown c (by omega) (blk (some ⟨g, 0, none⟩))
        exact ⟨_, _, _, hr, hgr.1, hgr.2, .inr rfl⟩

theorem wpList_append_g {ops : Array Oper} {rest : List Oper} {o : Oper} {a : Act} {Q : Exit → Act → World → Prop} {ok : Value → Prop} (hgd : Region.wanted o (yielded ops a.tmps) = true) (s x : Operand) (t : TypeId)
    (ho : o.op = .call { callee := .builtin .append, args := #[s, x], argTypes := #[t, t] })
    (base : Nat) (e : TypeId) (i : TypeInfo) (z : Value) (size bytes : Nat) (ht : P.underlying t = some (.slice e)) (hi : P.info? e = some i) (hz : i.zero = some z)
    (hsize : i.size = size) (hby : i.bytes = bytes) (hzs : z.cells.size = size) (hsz : 0 < size) (hzok : ∀ u ∈ z.cells.toList, ok u) (hok1 : ∀ u, ok u → u.oneCell' = true)
    {A : Option Addr} {n c : Nat} {xs : List Value} (hs : a.eval s = .slice A n c) (hown : OwnG ok w base e size A n c xs)
    {A2 : Option Addr} {m c2 : Nat} {news : List Value} (hx : a.eval x = .slice A2 m c2) (hr : RdG w size A2 m c2 news) (hnok : ∀ u ∈ news, ok u)
    (hbytes : (n + m) * bytes ≤ 140737488355328) (h63 : n + m ≤ maxLen) (hbase : base ≤ w.heap.size)
    (h : ∀ A' c' w', OwnG ok w' base e size A' (n + m) c' (xs ++ news) → w.grownBy w' (blk A) → (A' = A ∨ A' = some ⟨w.heap.size, 0, none⟩) → wpList P ops Q rest (a.put o.dst (.slice A' (n + m) c')) w') : wpList P ops Q (o :: rest) a w := by
  refine wpList_wanted hgd fun K hK => ?_
  obtain ⟨A', c', w', hrun, h2, h3, h4⟩ := run_append_g (P := P) base t o.type e i z size bytes ht hi hz hsize hby hzs hsz hzok hok1 hown hr hnok hbytes h63 hbase
  unfold Oper.wp execOp
  simp only [ho, resolve, invoke, builtin, Sem.run_bind, Sem.run_pure, Result.andThen_ok, List.map_toArray, List.map_cons, List.map_nil, hs, hx, hrun]
  exact hK _ _ (h A' c' w' h2 h3 h4)

end

section
variable {P : Program} {w : World}

theorem made_list (z : Value) (hz : z.cells = #[z]) (k : Nat) : (madeCells z.cells k).toList = List.replicate k z := by rw [hz]; exact toList_madeCells_one z k

/-- 'make([]T, n, c)', elements of one cell. -/
theorem wpList_make_g {ops : Array Oper} {rest : List Oper} {o : Oper} {a : Act} {Q : Exit → Act → World → Prop} {ok : Value → Prop} (hgd : Region.wanted o (yielded ops a.tmps) = true) (l c : Operand) (t : TypeId) (hop : o.op = Op.makeSlice t l c)
    (base : Nat) (e : TypeId) (i : TypeInfo) (z : Value) (bytes : Nat) (ht : P.underlying t = some (.slice e)) (hi : P.info? e = some i) (hz : i.zero = some z) (hsize : i.size = 1) (hby : i.bytes = bytes) (hzs : z.cells = #[z]) (hok : ok z)
    (kl kc : IntKind) (n m : Nat) {L C : Int} (hl : a.eval l = .int kl L) (hc : a.eval c = .int kc C) (hL : L = (n : Int)) (hC : C = (m : Int)) (hnm : n ≤ m) (b2 : bytes * m ≤ 281474976710656) (b3 : m ≤ maxLen) (b4 : base ≤ w.heap.size)
    (hK : ∀ w', OwnG ok w' base e 1 (some ⟨w.heap.size, 0, none⟩) n m (List.replicate n z) → Ext w w' → w.heap.size < w'.heap.size → wpList P ops Q rest (a.put o.dst (.slice (some ⟨w.heap.size, 0, none⟩) n m)) w') :
    wpList P ops Q (o :: rest) a w := by
  subst hL; subst hC
  refine wpList_wanted hgd fun K hK' => ?_
  have hm : m ≤ 9223372036854775807 := by unfold maxLen at b3; omega
  have hbb : (i.bytes : Int) * (m : Int) ≤ 281474976710656 := by
    have h : ((i.bytes * m : Nat) : Int) ≤ 281474976710656 := by rw [hby]; omega
    rwa [Int.natCast_mul] at h
  have hr := run_make (P := P) w t e i z ht hi hz kl kc n m (by omega) (by omega) hbb (by omega)
  simp only [Int.toNat_natCast, hsize, Nat.mul_one] at hr
  have hown := OwnG.new (ok := ok) (base := base) (size := 1) (e := e) w (List.replicate m z) n m b4 (by simp) hnm b3 (by intro u hu; rw [(List.mem_replicate.1 hu).2]; exact hok)
  have hcs : madeCells z.cells m = (List.replicate m z).toArray := by
    apply Array.ext'
    rw [made_list z hzs]
  rw [hcs] at hr
  unfold Oper.wp
  simp [execOp, hop, hl, hc, hr, Result.andThen]
  refine hK' _ _ (hK _ ?_ ((Below.refl _ _).alloc (Nat.le_refl _) _) (by simp))
  have e1 : (List.replicate m z).take (n * 1) = List.replicate n z := by simp [List.take_replicate, Nat.min_eq_left hnm]
  rw [e1] at hown
  simpa using hown

/-- 'copy(dst, src)', dst the call's own, src whatever reads, elements of one cell. -/
theorem run_copy_g {ok : Value → Prop} (base : Nat) (t ty e : TypeId) (i : TypeInfo) (ht : P.underlying t = some (.slice e)) (hi : P.info? e = some i) (hsize : i.size = 1) (hok1 : ∀ u, ok u → u.oneCell' = true)
    {A : Option Addr} {n c : Nat} {xs : List Value} (hown : OwnG ok w base e 1 A n c xs) {A2 : Option Addr} {m c2 : Nat} {news : List Value} (hr : RdG w 1 A2 m c2 news) (hnok : ∀ u ∈ news, ok u) :
    ∃ w', (Builtin.copy_ #[t, t] ty #[.slice A n c, .slice A2 m c2]).run P w = .ok (goInt (Nat.min m n)) w' ∧ OwnG ok w' base e 1 A n c (news.take (Nat.min m n) ++ xs.drop (Nat.min m n)) ∧ w.grownBy w' (blk A) := by
  have hnl : news.length = m := by simpa using hr.1
  have hxl : xs.length = n := by simpa using hown.rd.1
  by_cases h0 : Nat.min m n = 0
  · rw [h0]
    refine ⟨w, ?_, by simpa using hown, grown_refl _ _⟩
    rcases A with _ | a <;> rcases A2 with _ | a2 <;>
      simp [Builtin.copy_, run_underlying ht, Builtin.lenOf, Builtin.firstCells, sizeOf, typeInfo, hi, h0, storeCells, loadCells, loadCellsFrom]
  · have hk1 : Nat.min m n ≤ m := Nat.min_le_left _ _
    have hk2 : Nat.min m n ≤ n := Nat.min_le_right _ _
    obtain ⟨b, o, rfl, _, hcell⟩ := hr.2.2.2 (by omega)
    rcases hown with ⟨_, h, _⟩ | ⟨g, full, rfl, hbg, hg, hfl, hnc, hcm, htk, hok⟩
    · omega
    · have hcl : (news.take (Nat.min m n)).length = Nat.min m n := by rw [List.length_take]; omega
      have hrun := run_copy_row (P := P) w t t ty e g 0 n c ⟨b, o, none⟩ m c2 full.toArray e (news.take (Nat.min m n)) ht (by simp [hi, hsize]) hg hcl
        (fun j v hj => by
          rw [Addr.add_lit]
          rw [List.getElem?_take] at hj
          split at hj
          · exact hcell j v hj
          · cases hj)
        (by rw [hcl]; simp [hfl]; omega) (fun v hv => hok1 v (hnok v (List.mem_of_mem_take hv)))
      rw [hcl] at hrun
      refine ⟨_, hrun, .inr ⟨g, news.take (Nat.min m n) ++ full.drop (Nat.min m n), rfl, hbg, ?_, ?_, hnc, hcm, ?_, ?_⟩, ⟨rfl, rfl, rfl, by simp, fun k _ hk => setRow_other w g k _ (fun e => hk (by simp [e]))⟩⟩
      · have := setRow_heap w g _ (full.toArray.toList.take 0 ++ news.take (Nat.min m n) ++ full.toArray.toList.drop (0 + Nat.min m n)).toArray e _ hg
        simpa using this
      · simp only [List.length_append, hcl, List.length_drop, hfl]; omega
      · rw [Nat.mul_one, List.take_append, hcl, List.take_of_length_le (by rw [hcl]; exact hk2), ← htk, Nat.mul_one, List.drop_take]
      · intro u hu
        rcases List.mem_append.1 hu with hu | hu
        · exact hnok u (List.mem_of_mem_take hu)
        · exact hok u (List.mem_of_mem_drop hu)

theorem wpList_copy_g {ops : Array Oper} {rest : List Oper} {o : Oper} {a : Act} {Q : Exit → Act → World → Prop} {ok : Value → Prop} (hgd : Region.wanted o (yielded ops a.tmps) = true) (d s : Operand) (t : TypeId)
    (ho : o.op = .call { callee := .builtin .copy, args := #[d, s], argTypes := #[t, t] })
    (base : Nat) (e : TypeId) (i : TypeInfo) (ht : P.underlying t = some (.slice e)) (hi : P.info? e = some i) (hsize : i.size = 1) (hok1 : ∀ u, ok u → u.oneCell' = true)
    {A : Option Addr} {n c : Nat} {xs : List Value} (hd : a.eval d = .slice A n c) (hown : OwnG ok w base e 1 A n c xs)
    {A2 : Option Addr} {m c2 : Nat} {news : List Value} (hs : a.eval s = .slice A2 m c2) (hr : RdG w 1 A2 m c2 news) (hnok : ∀ u ∈ news, ok u)
    (h : ∀ w', OwnG ok w' base e 1 A n c (news.take (Nat.min m n) ++ xs.drop (Nat.min m n)) → w.grownBy w' (blk A) → wpList P ops Q rest (a.put o.dst (goInt (Nat.min m n))) w') : wpList P ops Q (o :: rest) a w := by
  refine wpList_wanted hgd fun K hK => ?_
  obtain ⟨w', hrun, h2, h3⟩ := run_copy_g (P := P) base t o.type e i ht hi hsize hok1 hown hr hnok
  unfold Oper.wp execOp
  simp only [ho, resolve, invoke, builtin, Sem.run_bind, Sem.run_pure, Result.andThen_ok, List.map_toArray, List.map_cons, List.map_nil, hd, hs, hrun]
  exact hK _ _ (h w' h2 h3)

end

theorem ext_alloc (w : World) (o : Obj) : Ext w (w.alloc o) := (Below.refl _ _).alloc (Nat.le_refl _) _
theorem RdG.single (w : World) (v : Value) (e : TypeId) : RdG (w.alloc (.cells #[v] e)) 1 (some ⟨w.heap.size, 0, none⟩) 1 1 [v] := by
  refine ⟨rfl, Nat.le_refl _, by simp [maxLen], fun _ => ⟨w.heap.size, 0, rfl, by simp, fun j u hj => ?_⟩⟩
  rcases j with _ | j
  · simp at hj; subst hj; simp
  · simp at hj

/-- 'append(s, v)', s the call's own, elements of one cell. -/
theorem wpList_append_1 {P : Program} {w : World} {ops : Array Oper} {rest : List Oper} {o : Oper} {a : Act} {Q : Exit → Act → World → Prop} {ok : Value → Prop} (hgd : Region.wanted o (yielded ops a.tmps) = true) (s x : Operand) (t : TypeId)
    (ho : o.op = .call { callee := .builtin .append, args := #[s, x], argTypes := #[t, t] })
    (base : Nat) (e : TypeId) (i : TypeInfo) (z : Value) (bytes : Nat) (ht : P.underlying t = some (.slice e)) (hi : P.info? e = some i) (hz : i.zero = some z)
    (hsize : i.size = 1) (hby : i.bytes = bytes) (hzs : z.cells = #[z]) (hzok : ok z) (hok1 : ∀ u, ok u → u.oneCell' = true)
    {A : Option Addr} {n c : Nat} {xs : List Value} (hs : a.eval s = .slice A n c) (hown : OwnG ok w base e 1 A n c xs)
    (v : Value) (hx : a.eval x = .slice (some ⟨w.heap.size, 0, none⟩) 1 1) (hv : ok v)
    (hbytes : (n + 1) * bytes ≤ 140737488355328) (h63 : n + 1 ≤ maxLen) (hbase : base ≤ w.heap.size)
    (h : ∀ A' c' w', OwnG ok w' base e 1 A' (n + 1) c' (xs ++ [v]) → w.grownBy w' (blk A) → Below base w w' → wpList P ops Q rest (a.put o.dst (.slice A' (n + 1) c')) w') : wpList P ops Q (o :: rest) a (w.alloc (.cells #[v] e)) := by
  refine wpList_append_g hgd s x t ho base e i z 1 bytes ht hi hz hsize hby (by rw [hzs]; rfl) (by decide) (by rw [hzs]; simpa using hzok) hok1 hs (hown.ext (ext_alloc _ _)) hx (RdG.single w v e) (by simpa using hv) hbytes h63 (by simp; omega) ?_
  intro A' c' w' h1 h2 _
  have hg : w.grownBy w' (blk A) := grown_trans (grown_of_ext (ext_alloc _ _) _) h2
  exact h A' c' w' h1 hg (Below.grown (Below.refl _ _) hg hbase fun g hb => (hown.lt g hb).1)

/-! ### bytes -/

abbrev u8v (b : UInt8) : Value := .int .u8 b.toNat
def isU8 (v : Value) : Prop := ∃ b : UInt8, v = u8v b
theorem isU8.one {v : Value} (h : isU8 v) : v.oneCell' = true := by obtain ⟨b, rfl⟩ := h; rfl
theorem isU8_map (l : List UInt8) : ∀ u ∈ l.map u8v, isU8 u := by
  intro u hu; obtain ⟨b, _, rfl⟩ := List.mem_map.1 hu; exact ⟨b, rfl⟩
theorem u8v_list {xs : List Value} (h : ∀ u ∈ xs, isU8 u) : ∃ l : List UInt8, xs = l.map u8v := by
  induction xs with
  | nil => exact ⟨[], rfl⟩
  | cons x xs ih =>
    obtain ⟨l, rfl⟩ := ih fun u hu => h u (List.mem_cons_of_mem _ hu)
    obtain ⟨b, rfl⟩ := h x List.mem_cons_self
    exact ⟨b :: l, rfl⟩

def Rd (w : World) (A : Option Addr) (c : Nat) (l : List UInt8) : Prop := RdG w 1 A l.length c (l.map u8v)
def Own (w : World) (base : Nat) (e : TypeId) (A : Option Addr) (c : Nat) (l : List UInt8) : Prop := OwnG isU8 w base e 1 A l.length c (l.map u8v)

section
variable {w w' : World} {base : Nat} {e : TypeId} {A : Option Addr} {c : Nat} {l : List UInt8}
theorem Own.rd (h : Own w base e A c l) : Rd w A c l := OwnG.rd h
theorem Own.ext (h : Own w base e A c l) (hb : Ext w w') : Own w' base e A c l := OwnG.ext h hb
theorem Own.mono {base' : Nat} (h : Own w base e A c l) (hb : base' ≤ base) : Own w base' e A c l := OwnG.mono h hb
theorem Own.grown {row : Option Nat} (h : Own w base e A c l) (hg : w.grownBy w' row) (hne : ∀ b, blk A = some b → some b ≠ row) : Own w' base e A c l := OwnG.grown h hg hne
theorem Own.lt (h : Own w base e A c l) : ∀ b, blk A = some b → base ≤ b ∧ b < w.heap.size := OwnG.lt h
theorem Own.far (h : Own w base e A c l) {p : Addr} (hp : p.block < base) (u : Value) : Own (w.setCell p u) base e A c l := OwnG.far h hp u
theorem Own.nil (w : World) (base : Nat) (e : TypeId) : Own w base e none 0 [] := OwnG.nil _ _ _ _ _
theorem Rd.ext (h : Rd w A c l) (hb : Ext w w') : Rd w' A c l := RdG.ext h hb
theorem Rd.grown {row : Option Nat} (h : Rd w A c l) (hg : w.grownBy w' row) (hne : 0 < l.length → blk A ≠ row) : Rd w' A c l := RdG.grown h hg hne
theorem Rd.lt (h : Rd w A c l) (h0 : 0 < l.length) : ∃ b, blk A = some b ∧ b < w.heap.size := RdG.lt h h0
theorem Rd.n_le (h : Rd w A c l) : l.length ≤ 9223372036854775807 := RdG.n_le h
theorem Rd.c_le (h : Rd w A c l) : c ≤ 9223372036854775807 := RdG.c_le h
theorem Rd.le (h : Rd w A c l) : l.length ≤ c := h.2.1
theorem Rd.at_ (h : Rd w A c l) {k : Nat} (hk : k < l.length) : ∃ b o, A = some ⟨b, o, none⟩ ∧ b < w.heap.size ∧ w.cell? ⟨b, o + k, none⟩ = some (u8v (l.getD k 0)) := by
  obtain ⟨b, o, h1, h2, h3⟩ := RdG.at_ h hk
  exact ⟨b, o, h1, h2, by rw [h3]; simp [hk]⟩
/-- All its cells, at one address. -/
theorem Rd.spot (h : Rd w A c l) (h0 : 0 < l.length) : ∃ b o, A = some ⟨b, o, none⟩ ∧ b < w.heap.size ∧ ∀ k, k < l.length → w.cell? ⟨b, o + k, none⟩ = some (u8v (l.getD k 0)) := by
  obtain ⟨b, o, h1, h2, h3⟩ := h.2.2.2 h0
  exact ⟨b, o, h1, h2, fun k hk => h3 k _ (by simp [hk])⟩
theorem Rd.cut (h : Rd w A c l) {i j : Nat} (hij : i ≤ j) (hj : j ≤ l.length) {A' : Option Addr} (hA : i < j → A' = A.map (·.add i)) : Rd w A' (c - i) ((l.take j).drop i) := by
  have := RdG.cut h hij hj (A' := A') (by simpa using hA)
  unfold Rd
  rw [List.map_drop, List.map_take, show ((l.take j).drop i).length = j - i from by simp; omega]
  simpa using this
theorem Own.new (w : World) (cs : List UInt8) (n : Nat) (hb : base ≤ w.heap.size) (hn : n ≤ cs.length) (hc : cs.length ≤ maxLen) :
    Own (w.alloc (.cells (cs.map u8v).toArray e)) base e (some ⟨w.heap.size, 0, none⟩) cs.length (cs.take n) := by
  unfold Own
  have := OwnG.new (ok := isU8) (base := base) (size := 1) (e := e) w (cs.map u8v) n cs.length hb (by simp) hn hc (isU8_map cs)
  rw [List.map_take, show (cs.take n).length = n from by simp; omega]
  simpa using this
end

theorem Own.lit (w : World) (cs : List UInt8) (e : TypeId) (arr : Array Value) (h : arr = (cs.map u8v).toArray) (hc : cs.length ≤ maxLen) :
    Own (w.alloc (.cells arr e)) w.heap.size e (some ⟨w.heap.size, 0, none⟩) cs.length cs := by
  subst h
  have := Own.new (base := w.heap.size) (e := e) w cs cs.length (Nat.le_refl _) (Nat.le_refl _) hc
  simpa using this

theorem Own.lit_at (w : World) (g : Nat) (cs : List UInt8) (e : TypeId) (arr : Array Value) (hg : g = w.heap.size) (h : arr = (cs.map u8v).toArray) (hc : cs.length ≤ maxLen) :
    Own (w.alloc (.cells arr e)) w.heap.size e (some ⟨g, 0, none⟩) cs.length cs := by
  subst hg; exact Own.lit w cs e arr h hc

/-- A slice of ints that reads as a list of numbers of their kind. -/
def RdI (w : World) (A : Option Addr) (c : Nat) (l : List Int) : Prop := RdG w 1 A l.length c (l.map (Value.int .i64)) ∧ ∀ n ∈ l, -9223372036854775808 ≤ n ∧ n ≤ 9223372036854775807
theorem RdI.none_ (w : World) : RdI w none 0 [] := ⟨RdG.none_ w 1, by simp⟩

/-- Bytes as a string. -/
def str (l : List UInt8) : ByteArray := ⟨l.toArray⟩
theorem str_inj {a b : List UInt8} : str a = str b ↔ a = b := by
  constructor
  · intro h; injection h with h; simpa using h
  · rintro rfl; rfl
theorem str_size (l : List UInt8) : (str l).size = l.length := by simp [str, ByteArray.size]
theorem str_data (l : List UInt8) : (str l).data.toList = l := by simp [str]
theorem str_of (s : ByteArray) : str s.data.toList = s := by cases s; simp [str]
@[simp] theorem str_toList (l : List UInt8) : (str l).toList = l := by rw [ByteArray.toList_eq, str_data]
theorem str_empty : ByteArray.empty = str [] := rfl
theorem str_append (a b : List UInt8) : str a ++ str b = str (a ++ b) := by
  apply ByteArray.ext
  simp [str]

section
variable {P : Program} {w : World} {A : Option Addr} {c : Nat} {l : List UInt8}

theorem nums_of (l : List UInt8) : strOfNums (l.map fun b => ((b.toNat : Nat) : Int)) = str l := by
  simp only [strOfNums, str, List.map_map]
  congr 2
  conv => rhs; rw [← List.map_id l]
  apply List.map_congr_left
  intro b _
  simp

theorem run_convert_rd (h : Rd w A c l) (src e : TypeId) (hs : P.underlying src = some (.slice e)) (he : P.underlying e = some (.int .u8)) (dst : TypeId) (hd : P.underlying dst = some .string) :
    (convert src dst (.slice A l.length c)).run P w = .ok (.string (str l)) w := by
  rcases Nat.eq_zero_or_pos l.length with h0 | h0
  · have hl : l = [] := List.eq_nil_of_length_eq_zero h0
    subst hl
    rw [run_convert_bytes_string w src dst e A _ c hs he hd]
    rcases A with _ | ad
    · simp [Conv.bytesToString, str]; rfl
    · have := run_bytesToString (P := P) w ad 0 c [] (by simp [loadCells, loadCellsFrom])
      exact this
  · obtain ⟨b, o, rfl, _, hc⟩ := h.spot h0
    have := run_convert_bytes_arg (P := P) w src e hs he b o l.length c (l.map fun b => ((b.toNat : Nat) : Int)) (by simp) (fun i hi => by rw [hc i hi]; simp [List.getD, hi]) dst hd
    rw [nums_of] at this
    exact this
end

end Go.BK

/- Layer 29: the program's fields: a map of lists of names. -/
import Derived.Test.YtholjbnggnfapaaScrB
namespace Go.Proofs.Ytholjbnggnfapaa
open Go.BK Go.BK.SC Go.RowKit Go.Maps
set_option linter.unusedVariables false
def namesV (fs : List F) : List Value := fs.map fun f => .string (nameF f)
abbrev Fd := Int × Option Addr × List F
def valF (p : Fd) : Value := .slice p.2.1 p.2.2.length p.2.2.length
noncomputable def tabL : List Fd → Lit → Option Value
  | [] => fun _ => none
  | p :: L => putF (tabL L) (.int .i64 p.1) (valF p)
def FR (w W : World) (mb : Nat) (L : List Fd) : Prop :=
  MapF Try.prog W 3 mb (tabL L) L.length ∧ Ext w W ∧ w.heap.size ≤ mb ∧ ∀ p ∈ L, RdG W 1 p.2.1 p.2.2.length p.2.2.length (namesV p.2.2) ∧ blk p.2.1 ≠ some mb ∧ ∀ k, blk p.2.1 = some k → w.heap.size ≤ k
theorem names_one (fs : List F) : ∀ u ∈ namesV fs, u.oneCell' = true := by
  intro u hu
  obtain ⟨f, _, rfl⟩ := List.mem_map.1 hu
  rfl
theorem tab_cons (L : List Fd) (p : Fd) (x : Lit) : putF (tabL L) (.int .i64 p.1) (valF p) x = tabL (p :: L) x := rfl
theorem tab_not {L : List Fd} {k : Int} (h : ∀ p ∈ L, p.1 ≠ k) : tabL L (.int .i64 k) = none := by
  induction L with
  | nil => rfl
  | cons p L ih =>
    unfold tabL putF
    rw [if_neg (fun e => h p (by simp) (by injection e with _ e; exact e.symm)), ih fun q hq => h q (by simp [hq])]
theorem tab_find {L : List Fd} (hd : L.Pairwise fun a b => a.1 ≠ b.1) {p : Fd} (hp : p ∈ L) : tabL L (.int .i64 p.1) = some (valF p) := by
  induction L with
  | nil => cases hp
  | cons q L ih =>
    rw [List.pairwise_cons] at hd
    unfold tabL putF
    rcases List.mem_cons.1 hp with rfl | hp
    · rw [if_pos rfl]
    · rw [if_neg (fun e => hd.1 p hp (by injection e with _ e; exact e.symm)), ih hd.2 hp]
theorem keyed_int : Go.Maps.Keyed Try.prog 3 := Go.Maps.int_keyed Try.underlying3
theorem key_int {a : Int} (h : -9223372036854775808 ≤ a ∧ a ≤ 9223372036854775807) : keyOf Try.prog 3 (.int .i64 a) = some (.int .i64 a) := Go.Maps.keyOf_int_mk Try.underlying3 (by simp only [Lit.wf, Bool.and_eq_true, decide_eq_true_eq]; exact h)
theorem FR.start (w : World) : FR w (w.alloc (.map #[] 0)) w.heap.size [] :=
  ⟨(MapF.made w Try.prog 3).congr fun x => by simp [tabL], ext_alloc _ _, Nat.le_refl _, by simp⟩
theorem FR.ext {w W W' : World} {mb : Nat} {L : List Fd} (h : FR w W mb L) (x : Ext W W') : FR w W' mb L :=
  ⟨h.1.ext x, ext_trans h.2.1 x, h.2.2.1, fun p hp => ⟨(h.2.2.2 p hp).1.ext x, (h.2.2.2 p hp).2⟩⟩
theorem FR.put {w W : World} {mb : Nat} {L : List Fd} (h : FR w W mb L) (p : Fd) (hL : L.length ≤ 100) (hk : ∀ q ∈ L, q.1 ≠ p.1) (hw : 0 ≤ p.1 ∧ p.1 ≤ 100) (hr : RdG W 1 p.2.1 p.2.2.length p.2.2.length (namesV p.2.2)) (hb : blk p.2.1 ≠ some mb) (hb2 : ∀ k, blk p.2.1 = some k → w.heap.size ≤ k) :
    ∃ W2, (Instr.mapUpdate 57 (.map (some mb)) (.int .i64 p.1) (valF p)).run Try.prog W = .ok () W2 ∧ FR w W2 mb (p :: L) := by
  obtain ⟨h1, h2, h3, h4⟩ := h
  obtain ⟨W2, e, m, t⟩ := h1.store keyed_int Try.underlying57 (by unfold maxLen; omega) (key_int (a := p.1) (by omega)) (valF p)
  have hg := t.grown
  have keep : ∀ q : Fd, RdG W 1 q.2.1 q.2.2.length q.2.2.length (namesV q.2.2) → blk q.2.1 ≠ some mb → RdG W2 1 q.2.1 q.2.2.length q.2.2.length (namesV q.2.2) := fun q hq hn => hq.grown hg fun _ => hn
  refine ⟨W2, e, ?_, below_of_grown h2 h2.size hg (fun g hg => by simp at hg; omega), h3, fun q hq => ?_⟩
  · have m2 := m.congr (g := tabL (p :: L)) (fun x => (tab_cons L p x).symm)
    rw [tab_not hk] at m2
    exact m2
  · rcases List.mem_cons.1 hq with rfl | hq
    · exact ⟨keep q hr hb, hb, hb2⟩
    · exact ⟨keep q (h4 q hq).1 (h4 q hq).2.1, (h4 q hq).2⟩
theorem FR.add {w W : World} {mb : Nat} {L : List Fd} (h : FR w W mb L) (k : Int) (fs : List F) (hL : L.length ≤ 100) (hf : fs.length ≤ 100) (hk : ∀ q ∈ L, q.1 ≠ k) (hw : 0 ≤ k ∧ k ≤ 100) :
    ∃ W2, (Instr.mapUpdate 57 (.map (some mb)) (.int .i64 k) (.slice (some ⟨W.heap.size, 0, none⟩) fs.length fs.length)).run Try.prog (W.alloc (.cells (namesV fs).toArray 9)) = .ok () W2 ∧ FR w W2 mb ((k, some ⟨W.heap.size, 0, none⟩, fs) :: L) := by
  have hx := ext_alloc W (.cells (namesV fs).toArray 9)
  refine (h.ext hx).put (k, some ⟨W.heap.size, 0, none⟩, fs) hL hk hw ?_ ?_ (fun k hk => by simp at hk; have := h.2.1.size; omega)
  · have hn : (namesV fs).length = fs.length := by simp [namesV]
    have := OwnG.new (ok := fun u => u.oneCell' = true) (base := 0) (size := 1) (e := 9) W (namesV fs) fs.length fs.length (Nat.zero_le _) (by rw [hn]; omega) (Nat.le_refl _) (by unfold maxLen; omega) (names_one fs)
    rw [Nat.mul_one, ← hn, List.take_length] at this
    rw [hn] at this
    exact this.rd
  · intro e
    simp at e
    have := h.1.lt
    omega
/-- What fields tells. -/
def FieldsD (w w' : World) (e : Ending) : Prop := ∃ mb L, e = .returned (.map (some mb)) ∧ FR w w' mb L ∧ ∀ k : Nat, 1 ≤ k → k ≤ 10 → ∃ A, tabL L (.int .i64 k) = some (.slice A (fieldsS k).length (fieldsS k).length) ∧ ((k : Int), A, fieldsS k) ∈ L
set_option maxHeartbeats 2000000 in
theorem fields_in (w : World) : Calls Try.prog 37 #[] w fun e w' => FieldsD w w' e := by
  have hmm := @run_makeMap Try.prog
  have f0 := FR.start w
  obtain ⟨w1, e1, f1⟩ := f0.add 1 [.who, .port, .b] (by simp) (by simp) (by simp) (by omega)
  obtain ⟨w2, e2, f2⟩ := f1.add 8 [.who, .port, .b] (by simp) (by simp) (by simp) (by omega)
  obtain ⟨w3, e3, f3⟩ := f2.add 2 [.sort, .who] (by simp) (by simp) (by simp) (by omega)
  obtain ⟨w4, e4, f4⟩ := f3.add 3 [.conn, .b] (by simp) (by simp) (by simp) (by omega)
  obtain ⟨w5, e5, f5⟩ := f4.add 4 [.conn] (by simp) (by simp) (by simp) (by omega)
  obtain ⟨w6, e6, f6⟩ := f5.add 5 [.conn, .n] (by simp) (by simp) (by simp) (by omega)
  obtain ⟨w7, e7, f7⟩ := f6.add 6 [.n] (by simp) (by simp) (by simp) (by omega)
  obtain ⟨w8, e8, f8⟩ := f7.add 7 [.n] (by simp) (by simp) (by simp) (by omega)
  obtain ⟨w9, e9, f9⟩ := f8.add 9 [.n, .b] (by simp) (by simp) (by simp) (by omega)
  obtain ⟨w10, e10, f10⟩ := f9.put (10, none, []) (by simp) (by simp) (by simp) (RdG.none_ _ _) (by simp) (by simp)
  rw [show (w.alloc (.map #[] 0)).heap.size = w.heap.size + 1 from by simp] at e1
  simp only [namesV, List.map_cons, List.map_nil, nameF, List.length_cons, List.length_nil, Nat.zero_add, Nat.reduceAdd, valF] at e1 e2 e3 e4 e5 e6 e7 e8 e9 e10
  have F10 := hid f10
  have HPW := hid (show List.Pairwise (fun a b : Fd => a.1 ≠ b.1) [(10, none, []), (9, some ⟨w8.heap.size, 0, none⟩, [F.n, F.b]), (7, some ⟨w7.heap.size, 0, none⟩, [F.n]), (6, some ⟨w6.heap.size, 0, none⟩, [F.n]), (5, some ⟨w5.heap.size, 0, none⟩, [F.conn, F.n]), (4, some ⟨w4.heap.size, 0, none⟩, [F.conn]), (3, some ⟨w3.heap.size, 0, none⟩, [F.conn, F.b]), (2, some ⟨w2.heap.size, 0, none⟩, [F.sort, F.who]), (8, some ⟨w1.heap.size, 0, none⟩, [F.who, F.port, F.b]), (1, some ⟨(w.alloc (.map #[] 0)).heap.size, 0, none⟩, [F.who, F.port, F.b])] from by simp)
  clear f0 f1 f2 f3 f4 f5 f6 f7 f8 f9 f10
  go_enter Try.func37, Try.ntmps37
  go_wp2_with fail
  go_ret
  refine ⟨_, _, rfl, F10.out, fun k h1 h2 => ?_⟩
  obtain ⟨A, hA⟩ : ∃ A, (((k : Int), A, fieldsS k) : Fd) ∈ ([(10, none, []), (9, some ⟨w8.heap.size, 0, none⟩, [F.n, F.b]), (7, some ⟨w7.heap.size, 0, none⟩, [F.n]), (6, some ⟨w6.heap.size, 0, none⟩, [F.n]), (5, some ⟨w5.heap.size, 0, none⟩, [F.conn, F.n]), (4, some ⟨w4.heap.size, 0, none⟩, [F.conn]), (3, some ⟨w3.heap.size, 0, none⟩, [F.conn, F.b]), (2, some ⟨w2.heap.size, 0, none⟩, [F.sort, F.who]), (8, some ⟨w1.heap.size, 0, none⟩, [F.who, F.port, F.b]), ((1 : Int), some ⟨(w.alloc (.map #[] 0)).heap.size, 0, none⟩, [F.who, F.port, F.b])] : List Fd) := by
    rcases (show k = 1 ∨ k = 2 ∨ k = 3 ∨ k = 4 ∨ k = 5 ∨ k = 6 ∨ k = 7 ∨ k = 8 ∨ k = 9 ∨ k = 10 by omega) with rfl | rfl | rfl | rfl | rfl | rfl | rfl | rfl | rfl | rfl <;> simp [fieldsS]
  exact ⟨A, tab_find (p := ((k : Int), A, fieldsS k)) HPW.out hA, hA⟩
end Go.Proofs.Ytholjbnggnfapaa

/- Layer 29: whether events are the same; fields of any kind. -/
import Derived.Test.YtholjbnggnfapaaScrF
namespace Go.Proofs.Ytholjbnggnfapaa
open Go.BK Go.BK.SC Go.RowKit Go.Maps
set_option linter.unusedVariables false
set_option linter.unusedSimpArgs false
section
variable {w w' : World} {c c2 d d2 : Nat} {A B B2 : Option Addr} {e e2 : Ev}
theorem equal_bytes {A B : Option Addr} {ca cb : Nat} {a b : List UInt8} {w : World} (ha : Rd w A ca a) (hb : Rd w B cb b) :
    Calls Try.prog 41 #[.slice A a.length ca, .slice B b.length cb] w fun e w' => e = .returned (.bool (a == b)) ∧ w = w' := by
  have h1 := run_convert_rd (P := Try.prog) ha 22 5 Try.underlying22 Try.underlying5 9 Try.underlying9
  have h2 := run_convert_rd (P := Try.prog) hb 22 5 Try.underlying22 Try.underlying5 9 Try.underlying9
  clear ha hb
  go_enter Try.func41, Try.ntmps41
  go_wp2
  go_ret
  exact ⟨ret_bool rfl, rfl⟩
set_option maxHeartbeats 2000000 in
set_option maxRecDepth 100000 in
theorem same_in (h : Rd w B d e.b) (h2 : Rd w B2 d2 e2.b) : Calls Try.prog 32 #[.agg #[.int .i64 e.kind, .int .i64 e.sort, .int .i64 e.who, .int .i64 e.port, .int .i64 e.conn, .int .i64 e.n, .slice B e.b.length d], .agg #[.int .i64 e2.kind, .int .i64 e2.sort, .int .i64 e2.who, .int .i64 e2.port, .int .i64 e2.conn, .int .i64 e2.n, .slice B2 e2.b.length d2]] w fun r w' => r = .returned (.bool (decide (e = e2))) ∧ Ext w w' := by
  obtain ⟨k, s, wh, p, co, n, b⟩ := e
  obtain ⟨k2, s2, wh2, p2, co2, n2, b2⟩ := e2
  simp only at h h2 ⊢
  have xa := ext_alloc w (.cells #[.int .i64 k, .int .i64 s, .int .i64 wh, .int .i64 p, .int .i64 co, .int .i64 n, .slice B b.length d] 34)
  have xb := ext_trans xa (ext_alloc _ (.cells #[.int .i64 k2, .int .i64 s2, .int .i64 wh2, .int .i64 p2, .int .i64 co2, .int .i64 n2, .slice B2 b2.length d2] 34))
  have C := hid (equal_bytes (RdG.ext h xb) (RdG.ext h2 xb))
  have XB := hid xb
  simp only [Ev.mk.injEq]
  clear h h2 xa xb
  by_cases hk : ¬ k = k2
  · have qk : (k == k2) = false := by simpa using hk
    have D : Hid (decide (k = k2 ∧ s = s2 ∧ wh = wh2 ∧ p = p2 ∧ co = co2 ∧ n = n2 ∧ b = b2) = false) := hid (by simp [hk])
    rw [D.out]
    clear D hk
    go_enter Try.func32, Try.ntmps32
    go_wp2_with fail
    go_ret
    exact ⟨rfl, XB.out⟩
  have hk := Decidable.not_not.1 hk
  subst hk
  by_cases hs : ¬ s = s2
  · have qs : (s == s2) = false := by simpa using hs
    have D : Hid (decide (k = k ∧ s = s2 ∧ wh = wh2 ∧ p = p2 ∧ co = co2 ∧ n = n2 ∧ b = b2) = false) := hid (by simp [hs])
    rw [D.out]
    clear D hs
    go_enter Try.func32, Try.ntmps32
    go_wp2_with fail
    go_ret
    exact ⟨rfl, XB.out⟩
  have hs := Decidable.not_not.1 hs
  subst hs
  by_cases hwh : ¬ wh = wh2
  · have qwh : (wh == wh2) = false := by simpa using hwh
    have D : Hid (decide (k = k ∧ s = s ∧ wh = wh2 ∧ p = p2 ∧ co = co2 ∧ n = n2 ∧ b = b2) = false) := hid (by simp [hwh])
    rw [D.out]
    clear D hwh
    go_enter Try.func32, Try.ntmps32
    go_wp2_with fail
    go_ret
    exact ⟨rfl, XB.out⟩
  have hwh := Decidable.not_not.1 hwh
  subst hwh
  by_cases hp : ¬ p = p2
  · have qp : (p == p2) = false := by simpa using hp
    have D : Hid (decide (k = k ∧ s = s ∧ wh = wh ∧ p = p2 ∧ co = co2 ∧ n = n2 ∧ b = b2) = false) := hid (by simp [hp])
    rw [D.out]
    clear D hp
    go_enter Try.func32, Try.ntmps32
    go_wp2_with fail
    go_ret
    exact ⟨rfl, XB.out⟩
  have hp := Decidable.not_not.1 hp
  subst hp
  by_cases hco : ¬ co = co2
  · have qco : (co == co2) = false := by simpa using hco
    have D : Hid (decide (k = k ∧ s = s ∧ wh = wh ∧ p = p ∧ co = co2 ∧ n = n2 ∧ b = b2) = false) := hid (by simp [hco])
    rw [D.out]
    clear D hco
    go_enter Try.func32, Try.ntmps32
    go_wp2_with fail
    go_ret
    exact ⟨rfl, XB.out⟩
  have hco := Decidable.not_not.1 hco
  subst hco
  by_cases hn : ¬ n = n2
  · have qn : (n == n2) = false := by simpa using hn
    have D : Hid (decide (k = k ∧ s = s ∧ wh = wh ∧ p = p ∧ co = co ∧ n = n2 ∧ b = b2) = false) := hid (by simp [hn])
    rw [D.out]
    clear D hn
    go_enter Try.func32, Try.ntmps32
    go_wp2_with fail
    go_ret
    exact ⟨rfl, XB.out⟩
  have hn := Decidable.not_not.1 hn
  subst hn
  have D : Hid (decide (k = k ∧ s = s ∧ wh = wh ∧ p = p ∧ co = co ∧ n = n ∧ b = b2) = (b == b2)) := hid (by
    simp only [true_and]
    by_cases hbb : b = b2
    · subst hbb; simp
    · simp [hbb])
  rw [D.out]
  clear D
  obtain ⟨r, hr⟩ : ∃ r, (b == b2) = r := ⟨_, rfl⟩
  rw [hr] at C ⊢
  clear hr
  go_enter Try.func32, Try.ntmps32
  go_wp2_with fail
  refine C.out.mono ?_
  rintro e w' ⟨rfl, rfl⟩
  go_wp2_with fail
  go_ret
  exact ⟨rfl, XB.out⟩
end
/-- What fields tells, of any kind. -/
def FieldsE (w w' : World) (e : Ending) : Prop := ∃ mb L, e = .returned (.map (some mb)) ∧ FR w w' mb L ∧ ∀ k : Int, (∃ A, tabL L (.int .i64 k) = some (.slice A (fieldsI k).length (fieldsI k).length) ∧ (k, A, fieldsI k) ∈ L) ∨ (tabL L (.int .i64 k) = none ∧ fieldsI k = [])
set_option maxHeartbeats 2000000 in
theorem fields_all (w : World) : Calls Try.prog 37 #[] w fun e w' => FieldsE w w' e := by
  have hmm := @run_makeMap Try.prog
  have f0 := FR.start w
  obtain ⟨w1, e1, f1⟩ := f0.add 1 [.who, .port, .b] (by simp) (by simp) (by simp) (by omega)
  obtain ⟨w2, e2, f2⟩ := f1.add 8 [.who, .port, .b] (by simp) (by simp) (by simp) (by omega)
  obtain ⟨w3, e3, f3⟩ := f2.add 2 [.sort, .who] (by simp) (by simp) (by simp) (by omega)
  obtain ⟨w4, e4, f4⟩ := f3.add 3 [.conn, .b] (by simp) (by simp) (by simp) (by omega)
  obtain ⟨w5, e5, f5⟩ := f4.add 4 [.conn] (by simp) (by simp) (by simp) (by omega)
  obtain ⟨w6, e6, f6⟩ := f5.add 5 [.conn, .n] (by simp) (by simp) (by simp) (by omega)
  obtain ⟨w7, e7, f7⟩ := f6.add 6 [.n] (by simp) (by simp) (by simp) (by omega)
  obtain ⟨w8, e8, f8⟩ := f7.add 7 [.n] (by simp) (by simp) (by simp) (by omega)
  obtain ⟨w9, e9, f9⟩ := f8.add 9 [.n, .b] (by simp) (by simp) (by simp) (by omega)
  obtain ⟨w10, e10, f10⟩ := f9.put (10, none, []) (by simp) (by simp) (by simp) (RdG.none_ _ _) (by simp) (by simp)
  rw [show (w.alloc (.map #[] 0)).heap.size = w.heap.size + 1 from by simp] at e1
  simp only [namesV, List.map_cons, List.map_nil, nameF, List.length_cons, List.length_nil, Nat.zero_add, Nat.reduceAdd, valF] at e1 e2 e3 e4 e5 e6 e7 e8 e9 e10
  have F10 := hid f10
  have HPW := hid (show List.Pairwise (fun a b : Fd => a.1 ≠ b.1) [(10, none, []), (9, some ⟨w8.heap.size, 0, none⟩, [F.n, F.b]), (7, some ⟨w7.heap.size, 0, none⟩, [F.n]), (6, some ⟨w6.heap.size, 0, none⟩, [F.n]), (5, some ⟨w5.heap.size, 0, none⟩, [F.conn, F.n]), (4, some ⟨w4.heap.size, 0, none⟩, [F.conn]), (3, some ⟨w3.heap.size, 0, none⟩, [F.conn, F.b]), (2, some ⟨w2.heap.size, 0, none⟩, [F.sort, F.who]), (8, some ⟨w1.heap.size, 0, none⟩, [F.who, F.port, F.b]), (1, some ⟨(w.alloc (.map #[] 0)).heap.size, 0, none⟩, [F.who, F.port, F.b])] from by simp)
  clear f0 f1 f2 f3 f4 f5 f6 f7 f8 f9 f10
  go_enter Try.func37, Try.ntmps37
  go_wp2_with fail
  go_ret
  refine ⟨_, _, rfl, F10.out, fun k => ?_⟩
  by_cases hk : 1 ≤ k ∧ k ≤ 10
  · left
    obtain ⟨A, hA⟩ : ∃ A, ((k, A, fieldsI k) : Fd) ∈ ([(10, none, []), (9, some ⟨w8.heap.size, 0, none⟩, [F.n, F.b]), (7, some ⟨w7.heap.size, 0, none⟩, [F.n]), (6, some ⟨w6.heap.size, 0, none⟩, [F.n]), (5, some ⟨w5.heap.size, 0, none⟩, [F.conn, F.n]), (4, some ⟨w4.heap.size, 0, none⟩, [F.conn]), (3, some ⟨w3.heap.size, 0, none⟩, [F.conn, F.b]), (2, some ⟨w2.heap.size, 0, none⟩, [F.sort, F.who]), (8, some ⟨w1.heap.size, 0, none⟩, [F.who, F.port, F.b]), ((1 : Int), some ⟨(w.alloc (.map #[] 0)).heap.size, 0, none⟩, [F.who, F.port, F.b])] : List Fd) := by
      rcases (show k = 1 ∨ k = 2 ∨ k = 3 ∨ k = 4 ∨ k = 5 ∨ k = 6 ∨ k = 7 ∨ k = 8 ∨ k = 9 ∨ k = 10 by omega) with rfl | rfl | rfl | rfl | rfl | rfl | rfl | rfl | rfl | rfl <;> simp [fieldsI, fieldsS]
    exact ⟨A, tab_find (p := (k, A, fieldsI k)) HPW.out hA, hA⟩
  · right
    refine ⟨tab_not ?_, by unfold fieldsI; rw [if_neg hk]⟩
    intro q hq e
    simp only [List.mem_cons, List.not_mem_nil, or_false] at hq
    rcases hq with rfl | rfl | rfl | rfl | rfl | rfl | rfl | rfl | rfl | rfl <;> (simp only at e; omega)
theorem be_take (x : Int) (sz i : Nat) (h : i < sz) : (be x sz).take (sz - 1 - i) ++ [byt (x / 256 ^ i)] = (be x sz).take (sz - i) := by
  induction sz with
  | zero => omega
  | succ sz ih =>
    rcases Nat.lt_or_ge i sz with h1 | h1
    · have e1 : sz + 1 - 1 - i = (sz - 1 - i) + 1 := by omega
      have e2 : sz + 1 - i = (sz - i) + 1 := by omega
      rw [e1, e2, be, List.take_succ_cons, List.take_succ_cons, List.cons_append, ih h1]
    · obtain rfl : i = sz := by omega
      rw [show i + 1 - 1 - i = 0 from by omega, show i + 1 - i = 1 from by omega]
      simp [be]
end Go.Proofs.Ytholjbnggnfapaa

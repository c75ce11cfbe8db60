/- A slice of events: opened. (Printed by gen_framee.py.) -/
import Derived.Test.YtholjbnggnfapaaFrameS
import Derived.Test.YtholjbnggnfapaaScrN
namespace Go.Proofs.Ytholjbnggnfapaa
open Go.ChangeShapes Go.WideShapes Go.ChangeAt Go.RowKit Go.BK Go.BK.SC Go.Deep
set_option linter.unusedVariables false

section
variable {H : Type} {enc : TypeId × Value → H} {W : World}
theorem addr_blockE (x : Addr) (k : Nat) : (x.add k).block = x.block := by
  unfold Addr.add
  split <;> first | rfl | (simp_all)
theorem cellsL_get (M : List Em) (q : Nat) (u : Value) (h : (cellsL M)[q]? = some u) : q / 7 < M.length ∧ (cellsE (M.getD (q / 7) em0).e (M.getD (q / 7) em0).B (M.getD (q / 7) em0).d)[q % 7]? = some u := by
  have hq : q < M.length * 7 := by
    rw [← cellsL_len]
    exact (List.getElem?_eq_some_iff.1 h).1
  have h1 : q / 7 < M.length := by omega
  refine ⟨h1, ?_⟩
  have h2 : q % 7 < 7 := Nat.mod_lt _ (by decide)
  obtain ⟨v, hv⟩ : ∃ v, (cellsE (M.getD (q / 7) em0).e (M.getD (q / 7) em0).B (M.getD (q / 7) em0).d)[q % 7]? = some v := ⟨_, Array.getElem?_eq_getElem (by simpa [cellsE] using h2)⟩
  have h3 := cellsL_at M (q / 7) (q % 7) v h1 hv
  rw [show q / 7 * 7 + q % 7 = q from by omega] at h3
  rw [h] at h3
  rw [hv, h3]
set_option maxHeartbeats 1000000 in
theorem open_evs {t e : TypeId} {f0 f1 f2 f3 f4 f5 f6 : Field} {v : Value} {x : DataW H × List MemPlace} {held : Bool}
    (ht : Try.prog.underlying t = some (.slice e)) (he : Try.prog.underlying e = some (.struct #[f0, f1, f2, f3, f4, f5, f6])) (hone : oneCellFields Try.prog #[f0, f1, f2, f3, f4, f5, f6] = true) (hC : Try.prog.cellsOf e = 7)
    (h0 : Try.prog.underlying f0.type = some (.int .i64))
    (h1 : Try.prog.underlying f1.type = some (.int .i64))
    (h2 : Try.prog.underlying f2.type = some (.int .i64))
    (h3 : Try.prog.underlying f3.type = some (.int .i64))
    (h4 : Try.prog.underlying f4.type = some (.int .i64))
    (h5 : Try.prog.underlying f5.type = some (.int .i64))
    (h6 : Try.prog.underlying f6.type = some (.slice 5))
    {A : Option Addr} {n c : Nat} (hv : v = .slice A n c)
    {fuel : Nat} (h : DataW.trod enc Try.prog W 0 (fun _ => true) held fuel t v.cells.toList = some x) :
    ∃ M : List Em, M.length = n ∧ EvR W A c M ∧ ∀ m ∈ M, WfE m.e := by
  subst hv
  rcases open_slice_fields ht he hone hC h with ⟨hcs, _⟩ | ⟨a, len, cap, m, D, Pl, hcs, _, hl, hm, hmm, _, hi⟩
  · simp [Value.cells] at hcs
    obtain ⟨rfl, rfl, rfl⟩ := hcs
    exact ⟨[], rfl, ⟨RdG.none_ _ _, by simp⟩, by simp⟩
  · simp [Value.cells] at hcs
    obtain ⟨rfl, rfl, rfl⟩ := hcs
    have key : ∀ i, i < n → ∃ p : Em, ∃ b o, a = ⟨b, o, none⟩ ∧ b < W.heap.size ∧ W.cell? ⟨b, o + i * 7, none⟩ = some (.int .i64 p.e.kind) ∧ W.cell? ⟨b, o + i * 7 + 1, none⟩ = some (.int .i64 p.e.sort) ∧ W.cell? ⟨b, o + i * 7 + 2, none⟩ = some (.int .i64 p.e.who) ∧ W.cell? ⟨b, o + i * 7 + 3, none⟩ = some (.int .i64 p.e.port) ∧ W.cell? ⟨b, o + i * 7 + 4, none⟩ = some (.int .i64 p.e.conn) ∧ W.cell? ⟨b, o + i * 7 + 5, none⟩ = some (.int .i64 p.e.n) ∧ W.cell? ⟨b, o + i * 7 + 6, none⟩ = some (.slice p.B p.e.b.length p.d) ∧ WfE p.e ∧ Rd W p.B p.d p.e.b := by
      intro i hin
      obtain ⟨ys, k, _, _, _, hf⟩ := hi i (by rw [hmm]; split <;> omega)
      obtain ⟨v0, y0, hc0, _, ht0⟩ := hf 0 f0 rfl
      obtain ⟨v1, y1, hc1, _, ht1⟩ := hf 1 f1 rfl
      obtain ⟨v2, y2, hc2, _, ht2⟩ := hf 2 f2 rfl
      obtain ⟨v3, y3, hc3, _, ht3⟩ := hf 3 f3 rfl
      obtain ⟨v4, y4, hc4, _, ht4⟩ := hf 4 f4 rfl
      obtain ⟨v5, y5, hc5, _, ht5⟩ := hf 5 f5 rfl
      obtain ⟨v6, y6, hc6, _, ht6⟩ := hf 6 f6 rfl
      obtain ⟨n0, hn0, hw0⟩ : ∃ n0, v0 = .int .i64 n0 ∧ (Lit.int .i64 n0).wf = true := by
        obtain ⟨n0, e0, _, w0⟩ := DataW.trod_int h0 ht0
        exact ⟨n0, by simpa using e0, w0⟩
      obtain ⟨n1, hn1, hw1⟩ : ∃ n1, v1 = .int .i64 n1 ∧ (Lit.int .i64 n1).wf = true := by
        obtain ⟨n1, e1, _, w1⟩ := DataW.trod_int h1 ht1
        exact ⟨n1, by simpa using e1, w1⟩
      obtain ⟨n2, hn2, hw2⟩ : ∃ n2, v2 = .int .i64 n2 ∧ (Lit.int .i64 n2).wf = true := by
        obtain ⟨n2, e2, _, w2⟩ := DataW.trod_int h2 ht2
        exact ⟨n2, by simpa using e2, w2⟩
      obtain ⟨n3, hn3, hw3⟩ : ∃ n3, v3 = .int .i64 n3 ∧ (Lit.int .i64 n3).wf = true := by
        obtain ⟨n3, e3, _, w3⟩ := DataW.trod_int h3 ht3
        exact ⟨n3, by simpa using e3, w3⟩
      obtain ⟨n4, hn4, hw4⟩ : ∃ n4, v4 = .int .i64 n4 ∧ (Lit.int .i64 n4).wf = true := by
        obtain ⟨n4, e4, _, w4⟩ := DataW.trod_int h4 ht4
        exact ⟨n4, by simpa using e4, w4⟩
      obtain ⟨n5, hn5, hw5⟩ : ∃ n5, v5 = .int .i64 n5 ∧ (Lit.int .i64 n5).wf = true := by
        obtain ⟨n5, e5, _, w5⟩ := DataW.trod_int h5 ht5
        exact ⟨n5, by simpa using e5, w5⟩
      obtain ⟨B, d, L, hS, hR⟩ : ∃ B d L, v6 = .slice B (List.length L) d ∧ Rd W B d L := by
        rcases open_ints h6 Try.underlying5 (by kernel_rfl) ht6 with ⟨hcs, _⟩ | ⟨x, l, c', zs, hcs, _, hl, hm, hz, _, hcell, hwz⟩
        · simp at hcs
          exact ⟨none, 0, [], hcs, RdG.none_ _ _⟩
        · simp at hcs
          obtain ⟨L, hL, hr⟩ := rd_of_ints hl hm (by simpa using hz) hcell hwz
          exact ⟨some x, c', L, by rw [hcs, hL], hr⟩
      subst hn0; subst hn1; subst hn2; subst hn3; subst hn4; subst hn5; subst hS
      obtain ⟨ys', k', _, _, _, hf'⟩ := hi 0 (by rw [hmm]; split <;> omega)
      obtain ⟨v0', y0', hc0', _, _⟩ := hf' 0 f0 rfl
      obtain ⟨b, o, sp⟩ := a
      have hs : sp = none := by
        have := spot_of hc0'
        simpa [Addr.add] using this
      subst hs
      have hb : b < W.heap.size := by
        have := World.block_lt_of_cell? W _ hc0
        rw [addr_blockE] at this
        exact this
      refine ⟨⟨⟨n0, n1, n2, n3, n4, n5, L⟩, B, d⟩, b, o, rfl, hb, ?_, ?_, ?_, ?_, ?_, ?_, ?_, ⟨wf_i64_bounds hw0, wf_i64_bounds hw1, wf_i64_bounds hw2, wf_i64_bounds hw3, wf_i64_bounds hw4, wf_i64_bounds hw5⟩, hR⟩
      · rw [Addr.add_lit] at hc0; exact hc0
      · rw [Addr.add_lit] at hc1; exact hc1
      · rw [Addr.add_lit] at hc2; exact hc2
      · rw [Addr.add_lit] at hc3; exact hc3
      · rw [Addr.add_lit] at hc4; exact hc4
      · rw [Addr.add_lit] at hc5; exact hc5
      · rw [Addr.add_lit] at hc6; exact hc6
    obtain ⟨f, hf⟩ : ∃ f : Nat → Em, ∀ i, i < n → ∃ b o, a = ⟨b, o, none⟩ ∧ b < W.heap.size ∧ W.cell? ⟨b, o + i * 7, none⟩ = some (.int .i64 (f i).e.kind) ∧ W.cell? ⟨b, o + i * 7 + 1, none⟩ = some (.int .i64 (f i).e.sort) ∧ W.cell? ⟨b, o + i * 7 + 2, none⟩ = some (.int .i64 (f i).e.who) ∧ W.cell? ⟨b, o + i * 7 + 3, none⟩ = some (.int .i64 (f i).e.port) ∧ W.cell? ⟨b, o + i * 7 + 4, none⟩ = some (.int .i64 (f i).e.conn) ∧ W.cell? ⟨b, o + i * 7 + 5, none⟩ = some (.int .i64 (f i).e.n) ∧ W.cell? ⟨b, o + i * 7 + 6, none⟩ = some (.slice (f i).B (f i).e.b.length (f i).d) ∧ WfE (f i).e ∧ Rd W (f i).B (f i).d (f i).e.b :=
      ⟨fun i => if hi : i < n then (key i hi).choose else em0, fun i hin => by
        have := (key i hin).choose_spec
        simp only [dif_pos hin]
        exact this⟩
    have hg : ∀ j, j < n → ((List.range n).map f).getD j em0 = f j := fun j hj => by simp [List.getD, hj]
    refine ⟨(List.range n).map f, by simp, ⟨⟨by rw [cellsL_len], by simpa using hl, hm, fun h0 => ?_⟩, fun p hp => ?_⟩, fun p hp => ?_⟩
    · rw [List.length_map, List.length_range] at h0
      obtain ⟨b, o, ha, hb, _⟩ := hf 0 h0
      refine ⟨b, o, by rw [ha], hb, fun q u hq => ?_⟩
      obtain ⟨h1, h2⟩ := cellsL_get _ q u hq
      rw [List.length_map, List.length_range] at h1
      rw [hg _ h1] at h2
      obtain ⟨b', o', ha', _, c0, c1, c2, c3, c4, c5, c6, _⟩ := hf (q / 7) h1
      rw [ha] at ha'
      injection ha' with e1 e2
      subst e1; subst e2
      have h7 : q % 7 < 7 := Nat.mod_lt _ (by decide)
      have hqq : o + q = o + q / 7 * 7 + q % 7 := by omega
      rw [hqq]
      obtain ⟨r, hr⟩ : ∃ r, q % 7 = r := ⟨_, rfl⟩
      rw [hr] at h2 h7 ⊢
      rcases (show r = 0 ∨ r = 1 ∨ r = 2 ∨ r = 3 ∨ r = 4 ∨ r = 5 ∨ r = 6 by omega) with rfl | rfl | rfl | rfl | rfl | rfl | rfl <;> (simp [cellsE] at h2; subst h2)
      · exact c0
      · exact c1
      · exact c2
      · exact c3
      · exact c4
      · exact c5
      · exact c6
    · rw [List.mem_map] at hp
      obtain ⟨i, hi, rfl⟩ := hp
      rw [List.mem_range] at hi
      obtain ⟨_, _, _, _, _, _, _, _, _, _, _, _, r⟩ := hf i hi
      exact r
    · rw [List.mem_map] at hp
      obtain ⟨i, hi, rfl⟩ := hp
      rw [List.mem_range] at hi
      obtain ⟨_, _, _, _, _, _, _, _, _, _, _, r, _⟩ := hf i hi
      exact r
end
end Go.Proofs.Ytholjbnggnfapaa

import Derived.Test.YtcddfenhkljpeaaFrame
import Derived.Test.YtcddfenhkljpeaaChcX
import Derived.SizedLaws
import Derived.SliceStrings
import Derived.ChangeSame
import Derived.Deep.Slices
/- Arguments that are calls (a struct with a set in it), or lists of them: opened to cells; what they weigh. -/
namespace Go.Proofs.Ytcddfenhkljpeaa
open Go.ChangeShapes Go.WideShapes Go.ChangeAt Go.RowKit Go.BK Go.BK.CH Go.Deep
set_option linter.unusedVariables false

section
variable {H : Type} {enc : TypeId × Value → H} {W : World} {held : Bool}
theorem c_int : Try.prog.cellsOf 3 = 1 := by kernel_rfl
theorem c_str : Try.prog.cellsOf 9 = 1 := by kernel_rfl
theorem c_txs : Try.prog.cellsOf 28 = 1 := by kernel_rfl
theorem c_set : Try.prog.cellsOf 30 = 5 := by kernel_rfl
theorem c_act : Try.prog.cellsOf 52 = 11 := by kernel_rfl
theorem weights_mem_all {P : Program} {e : TypeId} : ∀ {l : List (DataW H)} {d : DataW H}, d ∈ l → ∀ n ∈ d.weights P e, n ∈ DataW.weightsAll P e l
  | [], _, h, _, _ => by cases h
  | a :: l, d, h, n, hn => by
    unfold DataW.weightsAll
    rw [List.mem_append]
    rcases List.mem_cons.1 h with rfl | h
    · exact .inl hn
    · exact .inr (weights_mem_all h n hn)
theorem list5 {cs : List Value} (h : cs.length = 5) : ∃ a b c d e, cs = [a, b, c, d, e] := by
  match cs, h with
  | [a, b, c, d, e], _ => exact ⟨a, b, c, d, e, rfl⟩
theorem list11 {cs : List Value} (h : cs.length = 11) : ∃ a b c d e f g i j k l, cs = [a, b, c, d, e, f, g, i, j, k, l] := by
  match cs, h with
  | [a, b, c, d, e, f, g, i, j, k, l], _ => exact ⟨a, b, c, d, e, f, g, i, j, k, l, rfl⟩
theorem open_txt {fuel : Nat} {v : Value} {x : DataW H × List MemPlace} (h : DataW.trod enc Try.prog W 0 (fun _ => true) held fuel 28 [v] = some x) (hsz : ∀ n ∈ x.1.weights Try.prog 28, n ≤ reachBytes) :
    ∃ (A : Option Addr) (d : Nat) (L : List (List UInt8)), v = .slice A L.length d ∧ RdT W A d L ∧ ∀ t ∈ L, t.length ≤ 140737488351232 := by
  rcases open_strings Try.underlying28 Try.underlying9 c_str h with ⟨hcs, _⟩ | ⟨a, len, cap, ss, hcs, _, hl, hm, hss, hx, hcell, hz⟩
  · simp at hcs
    exact ⟨none, 0, [], hcs, ⟨RdG.none_ _ _, by simp⟩, by simp⟩
  · simp at hcs
    have hsc : ss.length = cap := by simpa using hss
    have hlen : ((ss.take len).map (·.data.toList)).length = len := by simp; omega
    refine ⟨some a, cap, (ss.take len).map (·.data.toList), by rw [hcs, hlen], ⟨⟨by rw [tvs_length, Nat.mul_one], by omega, hm, fun h0 => ?_⟩, ?_⟩, ?_⟩
    · have hn : 0 < len := by omega
      have hc0 := hcell 0 (by omega)
      obtain ⟨b, o, sp⟩ := a
      have hs : sp = none := by
        have := spot_of hc0
        simpa [Addr.add] using this
      subst hs
      have hb : b < W.heap.size := by
        have := World.block_lt_of_cell? W _ hc0
        rw [Addr.add_lit] at this
        exact this
      refine ⟨b, o, rfl, hb, fun j u hj => ?_⟩
      unfold tvs at hj
      rw [List.getElem?_map, List.getElem?_map, List.getElem?_take] at hj
      split at hj
      · rename_i hjn
        have hjl : j < ss.length := by omega
        rw [List.getElem?_eq_getElem hjl] at hj
        simp at hj
        have h2 := hcell j hjl
        rw [Addr.add_lit] at h2
        rw [h2, ← hj]
        rw [List.getD_eq_getElem?_getD, List.getElem?_eq_getElem hjl, Option.getD_some, str_of]
      · cases hj
    · intro s hs
      obtain ⟨u, hu, rfl⟩ := List.mem_map.1 hs
      have := hz u (List.mem_of_mem_take hu)
      rw [Array.length_toList]
      exact this
    · intro s hs
      obtain ⟨u, hu, rfl⟩ := List.mem_map.1 hs
      have h1 : u.data.toList.length ∈ x.1.weights Try.prog 28 := by
        rw [hx]
        simp only [DataW.weights, Try.underlying28, List.mem_cons, List.mem_append]
        right; left
        exact weights_mem_all (d := .lit (.string u.data.toList)) (List.mem_map.2 ⟨u, hu, rfl⟩) _ (by simp [DataW.weights])
      have := hsz _ h1
      unfold reachBytes at this
      omega
theorem open_set {fuel : Nat} {cs : List Value} {x : DataW H × List MemPlace} (h : DataW.trod enc Try.prog W 0 (fun _ => true) held fuel 30 cs = some x) (hsz : ∀ n ∈ x.1.weights Try.prog 30, n ≤ reachBytes) :
    ∃ (s : SetS) (A : Option Addr) (d : Nat), cs = [.string (str s.nm), .int .i64 s.ty, .int .i64 s.cl, .int .i64 s.ttl, .slice A s.data.length d] ∧ WfS s ∧ RdT W A d s.data := by
  obtain ⟨ys, n, _, hx, hl, hyl, hf⟩ := DataW.trod_struct Try.underlying30 h
  rw [c_set] at hl
  obtain ⟨v0, v1, v2, v3, v4, rfl⟩ := list5 hl
  have g : ∀ j, j < 5 → ∃ y, ys[j]? = some y := fun j hj => ⟨_, List.getElem?_eq_getElem (by rw [hyl]; exact hj)⟩
  obtain ⟨y0, e0⟩ := g 0 (by decide)
  obtain ⟨y1, e1⟩ := g 1 (by decide)
  obtain ⟨y2, e2⟩ := g 2 (by decide)
  obtain ⟨y3, e3⟩ := g 3 (by decide)
  obtain ⟨y4, e4⟩ := g 4 (by decide)
  have h0 : DataW.trod enc Try.prog W 0 (fun _ => true) held n 9 (([v0, v1, v2, v3, v4].drop 0).take (Try.prog.cellsOf 9)) = some y0 := (hf 0 _ rfl).trans e0
  rw [c_str] at h0
  have h0 : DataW.trod enc Try.prog W 0 (fun _ => true) held n 9 [v0] = some y0 := h0
  have h1 : DataW.trod enc Try.prog W 0 (fun _ => true) held n 3 (([v0, v1, v2, v3, v4].drop 1).take (Try.prog.cellsOf 3)) = some y1 := (hf 1 _ rfl).trans e1
  rw [c_int] at h1
  have h1 : DataW.trod enc Try.prog W 0 (fun _ => true) held n 3 [v1] = some y1 := h1
  have h2 : DataW.trod enc Try.prog W 0 (fun _ => true) held n 3 (([v0, v1, v2, v3, v4].drop 2).take (Try.prog.cellsOf 3)) = some y2 := (hf 2 _ rfl).trans e2
  rw [c_int] at h2
  have h2 : DataW.trod enc Try.prog W 0 (fun _ => true) held n 3 [v2] = some y2 := h2
  have h3 : DataW.trod enc Try.prog W 0 (fun _ => true) held n 3 (([v0, v1, v2, v3, v4].drop 3).take (Try.prog.cellsOf 3)) = some y3 := (hf 3 _ rfl).trans e3
  rw [c_int] at h3
  have h3 : DataW.trod enc Try.prog W 0 (fun _ => true) held n 3 [v3] = some y3 := h3
  have h4 : DataW.trod enc Try.prog W 0 (fun _ => true) held n 28 (([v0, v1, v2, v3, v4].drop 4).take (Try.prog.cellsOf 28)) = some y4 := (hf 4 _ rfl).trans e4
  rw [c_txs] at h4
  have h4 : DataW.trod enc Try.prog W 0 (fun _ => true) held n 28 [v4] = some y4 := h4
  obtain ⟨b0, q0, r0, _⟩ := DataW.trod_string Try.underlying9 h0
  obtain ⟨n1, q1, _, w1⟩ := DataW.trod_int Try.underlying3 h1
  obtain ⟨n2, q2, _, w2⟩ := DataW.trod_int Try.underlying3 h2
  obtain ⟨n3, q3, _, w3⟩ := DataW.trod_int Try.underlying3 h3
  have hw : ∀ (j : Nat) (t : TypeId) (y : DataW H × List MemPlace), ([9, 3, 3, 3, 28] : List TypeId)[j]? = some t → ys[j]? = some y → ∀ n ∈ y.1.weights Try.prog t, n ≤ reachBytes := fun j t y ht hy n hn => by
    refine hsz n ?_
    rw [hx]
    simp only [DataW.weights, Try.underlying30]
    exact DataW.weights_mem_each (j := j) (t := t) (d := y.1) ht (by rw [List.getElem?_map, hy]; rfl) n hn
  obtain ⟨A, d, L, q4, rt, hL⟩ := open_txt h4 (hw 4 28 y4 rfl e4)
  have hb0 : b0.data.toList.length ≤ reachBytes := hw 0 9 y0 rfl e0 _ (by rw [r0]; simp [DataW.weights])
  simp only [List.cons.injEq, and_true] at q0 q1 q2 q3
  subst q0; subst q1; subst q2; subst q3; subst q4
  refine ⟨⟨b0.data.toList, n1, n2, n3, L⟩, A, d, by rw [str_of], ⟨wf_i64_bounds w1, wf_i64_bounds w2, wf_i64_bounds w3, by unfold reachBytes at hb0; exact hb0, hL⟩, rt⟩
theorem open_act {fuel : Nat} {cs : List Value} {x : DataW H × List MemPlace} (h : DataW.trod enc Try.prog W 0 (fun _ => true) held fuel 52 cs = some x) (hsz : ∀ n ∈ x.1.weights Try.prog 52, n ≤ reachBytes) :
    ∃ m : Am, cs = cellsA m ∧ WfA m.a ∧ RdT W m.A m.d m.a.s.data := by
  obtain ⟨ys, n, _, hx, hl, hyl, hf⟩ := DataW.trod_struct Try.underlying52 h
  rw [c_act] at hl
  obtain ⟨v0, v1, v2, v3, v4, v5, v6, v7, v8, v9, v10, rfl⟩ := list11 hl
  have g : ∀ j, j < 7 → ∃ y, ys[j]? = some y := fun j hj => ⟨_, List.getElem?_eq_getElem (by rw [hyl]; exact hj)⟩
  obtain ⟨y0, e0⟩ := g 0 (by decide)
  obtain ⟨y1, e1⟩ := g 1 (by decide)
  obtain ⟨y2, e2⟩ := g 2 (by decide)
  obtain ⟨y3, e3⟩ := g 3 (by decide)
  obtain ⟨y4, e4⟩ := g 4 (by decide)
  obtain ⟨y5, e5⟩ := g 5 (by decide)
  obtain ⟨y6, e6⟩ := g 6 (by decide)
  have h0 : DataW.trod enc Try.prog W 0 (fun _ => true) held n 3 (([v0, v1, v2, v3, v4, v5, v6, v7, v8, v9, v10].drop 0).take (Try.prog.cellsOf 3)) = some y0 := (hf 0 _ rfl).trans e0
  rw [c_int] at h0
  have h0 : DataW.trod enc Try.prog W 0 (fun _ => true) held n 3 [v0] = some y0 := h0
  have h1 : DataW.trod enc Try.prog W 0 (fun _ => true) held n 3 (([v0, v1, v2, v3, v4, v5, v6, v7, v8, v9, v10].drop 1).take (Try.prog.cellsOf 3)) = some y1 := (hf 1 _ rfl).trans e1
  rw [c_int] at h1
  have h1 : DataW.trod enc Try.prog W 0 (fun _ => true) held n 3 [v1] = some y1 := h1
  have h2 : DataW.trod enc Try.prog W 0 (fun _ => true) held n 3 (([v0, v1, v2, v3, v4, v5, v6, v7, v8, v9, v10].drop 2).take (Try.prog.cellsOf 3)) = some y2 := (hf 2 _ rfl).trans e2
  rw [c_int] at h2
  have h2 : DataW.trod enc Try.prog W 0 (fun _ => true) held n 3 [v2] = some y2 := h2
  have h3 : DataW.trod enc Try.prog W 0 (fun _ => true) held n 3 (([v0, v1, v2, v3, v4, v5, v6, v7, v8, v9, v10].drop 3).take (Try.prog.cellsOf 3)) = some y3 := (hf 3 _ rfl).trans e3
  rw [c_int] at h3
  have h3 : DataW.trod enc Try.prog W 0 (fun _ => true) held n 3 [v3] = some y3 := h3
  have h4 : DataW.trod enc Try.prog W 0 (fun _ => true) held n 3 (([v0, v1, v2, v3, v4, v5, v6, v7, v8, v9, v10].drop 4).take (Try.prog.cellsOf 3)) = some y4 := (hf 4 _ rfl).trans e4
  rw [c_int] at h4
  have h4 : DataW.trod enc Try.prog W 0 (fun _ => true) held n 3 [v4] = some y4 := h4
  have h5 : DataW.trod enc Try.prog W 0 (fun _ => true) held n 9 (([v0, v1, v2, v3, v4, v5, v6, v7, v8, v9, v10].drop 5).take (Try.prog.cellsOf 9)) = some y5 := (hf 5 _ rfl).trans e5
  rw [c_str] at h5
  have h5 : DataW.trod enc Try.prog W 0 (fun _ => true) held n 9 [v5] = some y5 := h5
  have h6 : DataW.trod enc Try.prog W 0 (fun _ => true) held n 30 (([v0, v1, v2, v3, v4, v5, v6, v7, v8, v9, v10].drop 6).take (Try.prog.cellsOf 30)) = some y6 := (hf 6 _ rfl).trans e6
  rw [c_set] at h6
  have h6 : DataW.trod enc Try.prog W 0 (fun _ => true) held n 30 [v6, v7, v8, v9, v10] = some y6 := h6
  obtain ⟨n0, q0, _, w0⟩ := DataW.trod_int Try.underlying3 h0
  obtain ⟨n1, q1, _, w1⟩ := DataW.trod_int Try.underlying3 h1
  obtain ⟨n2, q2, _, w2⟩ := DataW.trod_int Try.underlying3 h2
  obtain ⟨n3, q3, _, w3⟩ := DataW.trod_int Try.underlying3 h3
  obtain ⟨n4, q4, _, w4⟩ := DataW.trod_int Try.underlying3 h4
  obtain ⟨b5, q5, r5, _⟩ := DataW.trod_string Try.underlying9 h5
  have hw : ∀ (j : Nat) (t : TypeId) (y : DataW H × List MemPlace), ([3, 3, 3, 3, 3, 9, 30] : List TypeId)[j]? = some t → ys[j]? = some y → ∀ n ∈ y.1.weights Try.prog t, n ≤ reachBytes := fun j t y ht hy n hn => by
    refine hsz n ?_
    rw [hx]
    simp only [DataW.weights, Try.underlying52]
    exact DataW.weights_mem_each (j := j) (t := t) (d := y.1) ht (by rw [List.getElem?_map, hy]; rfl) n hn
  obtain ⟨s, A, d, q6, ws, rt⟩ := open_set h6 (hw 6 30 y6 rfl e6)
  have hb5 : b5.data.toList.length ≤ reachBytes := hw 5 9 y5 rfl e5 _ (by rw [r5]; simp [DataW.weights])
  simp only [List.cons.injEq, and_true] at q0 q1 q2 q3 q4 q5 q6
  obtain ⟨rfl, rfl, rfl, rfl, rfl⟩ := q6
  subst q0; subst q1; subst q2; subst q3; subst q4; subst q5
  refine ⟨⟨⟨n0, n1, n2, n3, n4, b5.data.toList, s⟩, A, d⟩, by simp [cellsA, str_of], ⟨wf_i64_bounds w0, wf_i64_bounds w1, wf_i64_bounds w2, wf_i64_bounds w3, wf_i64_bounds w4, by unfold reachBytes at hb5; exact hb5, ws⟩, rt⟩
theorem addr_blockV (x : Addr) (k : Nat) : (x.add k).block = x.block := by
  unfold Addr.add
  split <;> first | rfl | (simp_all)
theorem cellsM_get (M : List Am) (q : Nat) (u : Value) (h : (cellsM M)[q]? = some u) : q / 11 < M.length ∧ (cellsA (M.getD (q / 11) am0))[q % 11]? = some u := by
  have hq : q < M.length * 11 := by
    rw [← cellsM_len]
    exact (List.getElem?_eq_some_iff.1 h).1
  have h1 : q / 11 < M.length := by omega
  refine ⟨h1, ?_⟩
  have h2 : q % 11 < 11 := Nat.mod_lt _ (by decide)
  obtain ⟨v, hv⟩ : ∃ v, (cellsA (M.getD (q / 11) am0))[q % 11]? = some v := ⟨_, List.getElem?_eq_getElem (by simpa [cellsA] using h2)⟩
  have h3 := cellsM_at M (q / 11) (q % 11) v h1 hv
  rw [show q / 11 * 11 + q % 11 = q from by omega] at h3
  rw [h] at h3
  rw [hv, h3]
theorem open_acts {A : Option Addr} {n c : Nat} {fuel : Nat} {x : DataW H × List MemPlace} (h : DataW.trod enc Try.prog W 0 (fun _ => true) held fuel 46 (Value.slice A n c).cells.toList = some x) (hsz : ∀ n ∈ x.1.weights Try.prog 46, n ≤ reachBytes) :
    ∃ M : List Am, M.length = n ∧ ActR W A c M := by
  rcases open_slice Try.underlying46 h with ⟨hcs, _⟩ | ⟨a, len, cap, m, n', D, Pl, hcs, _, hl, hm, hmm, hx, hi⟩
  · simp [Value.cells] at hcs
    obtain ⟨rfl, rfl, rfl⟩ := hcs
    exact ⟨[], rfl, RdG.none_ _ _, by simp⟩
  · simp [Value.cells] at hcs
    obtain ⟨rfl, rfl, rfl⟩ := hcs
    rw [c_act] at hi
    have key : ∀ i, i < n → ∃ p : Am, ∃ b o, a = ⟨b, o, none⟩ ∧ b < W.heap.size ∧ (∀ j u, (cellsA p)[j]? = some u → W.cell? ⟨b, o + i * 11 + j, none⟩ = some u) ∧ WfA p.a ∧ RdT W p.A p.d p.a.s.data := by
      intro i hin
      obtain ⟨cs, hc, ht⟩ := hi i (by rw [hmm]; split <;> omega)
      obtain ⟨_, hcl, hat⟩ := World.cells?_some hc
      obtain ⟨p, hp, wf, rt⟩ := open_act ht (fun q hq => hsz q (by
        rw [hx]
        simp only [DataW.weights, Try.underlying46, List.mem_cons, List.mem_append]
        right; left
        exact weights_mem_all (d := D i) (List.mem_map.2 ⟨i, List.mem_range.2 hin, rfl⟩) q hq))
      have hat0 := hat 0 (by decide)
      obtain ⟨b, o, sp⟩ := a
      have hcell : ∀ j (hj : j < 11), W.cell? (((⟨b, o, sp⟩ : Addr).add (i * 11)).add j) = cs[j]? := fun j hj => by
        rw [hat j hj]
      have hc0 := hcell 0 (by decide)
      rw [hp] at hc0
      have hs : sp = none := by
        obtain ⟨cs0, hc00, ht0⟩ := hi 0 (by rw [hmm]; split <;> omega)
        obtain ⟨_, hcl0, hat00⟩ := World.cells?_some hc00
        have h3 := hat00 0 (by decide)
        obtain ⟨p0, hp0, _⟩ := open_act ht0 (fun q hq => hsz q (by
          rw [hx]
          simp only [DataW.weights, Try.underlying46, List.mem_cons, List.mem_append]
          right; left
          exact weights_mem_all (d := D 0) (List.mem_map.2 ⟨0, List.mem_range.2 (by omega), rfl⟩) q hq))
        rw [hp0] at h3
        have := spot_of h3
        simpa [Addr.add] using this
      subst hs
      have hb : b < W.heap.size := by
        have := World.block_lt_of_cell? W _ hc0
        rw [addr_blockV, addr_blockV] at this
        exact this
      refine ⟨p, b, o, rfl, hb, fun j u hu => ?_, wf, rt⟩
      have hj : j < 11 := by
        have := (List.getElem?_eq_some_iff.1 hu).1
        simpa [cellsA] using this
      have h2 := hcell j hj
      rw [Addr.add_lit, Addr.add_lit, hp, hu] at h2
      exact h2
    obtain ⟨f, hf⟩ : ∃ f : Nat → Am, ∀ i, i < n → ∃ b o, a = ⟨b, o, none⟩ ∧ b < W.heap.size ∧ (∀ j u, (cellsA (f i))[j]? = some u → W.cell? ⟨b, o + i * 11 + j, none⟩ = some u) ∧ WfA (f i).a ∧ RdT W (f i).A (f i).d (f i).a.s.data :=
      ⟨fun i => if hi : i < n then (key i hi).choose else am0, fun i hin => by
        have := (key i hin).choose_spec
        simp only [dif_pos hin]
        exact this⟩
    have hg : ∀ j, j < n → ((List.range n).map f).getD j am0 = f j := fun j hj => by simp [List.getD, hj]
    refine ⟨(List.range n).map f, by simp, ⟨by rw [cellsM_len], by simpa using hl, hm, fun h0 => ?_⟩, fun p hp => ?_⟩
    · rw [List.length_map, List.length_range] at h0
      obtain ⟨b, o, ha, hb, _⟩ := hf 0 h0
      refine ⟨b, o, by rw [ha], hb, fun q u hq => ?_⟩
      obtain ⟨h1, h2⟩ := cellsM_get _ q u hq
      rw [List.length_map, List.length_range] at h1
      rw [hg _ h1] at h2
      obtain ⟨b', o', ha', _, hc, _⟩ := hf (q / 11) h1
      rw [ha] at ha'
      injection ha' with e1 e2
      subst e1; subst e2
      have := hc (q % 11) u h2
      rw [show o + q / 11 * 11 + q % 11 = o + q from by omega] at this
      exact this
    · obtain ⟨i, hi9, rfl⟩ := List.mem_map.1 hp
      obtain ⟨_, _, _, _, _, w9, r9⟩ := hf i (List.mem_range.1 hi9)
      exact ⟨w9, r9⟩
end
end Go.Proofs.Ytcddfenhkljpeaa

import Derived.Test.YtcddfenhkljpeaaChcA
import Derived.Test.YtcddfenhkljpeaaNamL
import Derived.Deep.RegionLaw
import Derived.Outline
/- Layer 23: absent, within, of, until, New, Len, Has. -/
namespace Go.Proofs.Ytcddfenhkljpeaa
open Go.BK Go.BK.CH Go.BK.NM Go.RowKit Go.Maps
set_option linter.unusedVariables false
set_option linter.unusedSimpArgs false
section
variable {w w' : World} {g og mb : Nat} {most now : Int} {R P1 P2 : List Row} {r : Row}
set_option maxHeartbeats 1000000 in
theorem absent_no (h : CacM w g og mb most now R) : Calls Try.prog 33 #[pt g] w fun e w' => e = .returned (.bool false) ∧ w = w' := by
  obtain ⟨_, _, c2, _⟩ := h.cells
  simp only [pt] at c2 ⊢
  clear h
  go_enter Try.func33, Try.ntmps33
  go_wp2
  go_ret
  exact ⟨rfl, rfl⟩
set_option maxHeartbeats 1000000 in
theorem absent_nil (w : World) : Calls Try.prog 33 #[.pointer none] w fun e w' => e = .returned (.bool true) ∧ w = w' := by
  go_enter Try.func33, Try.ntmps33
  go_wp2
  go_ret
  exact ⟨rfl, rfl⟩
theorem thV_if (x : Th) (A : Option Addr) (c : Nat) : ∃ t v, thV x A c = .iface t v := by cases x <;> exact ⟨_, _, rfl⟩
def ZeroC (w : World) (g : Nat) : Prop := Blk w g 64 #[.int .i64 0, .int .i64 0, .pointer none, .map none]
set_option maxHeartbeats 1000000 in
theorem absent_zero (h : ZeroC w g) : Calls Try.prog 33 #[pt g] w fun e w' => e = .returned (.bool true) ∧ w = w' := by
  have c4 := Blk.cell h 2
  simp at c4
  simp only [pt]
  clear h
  go_enter Try.func33, Try.ntmps33
  go_wp2
  refine bodyPost_ret (results_tmp (by rfl) _ _ _) rfl ?_
  exact ⟨rfl, rfl⟩
def inTime (t : Int) : Prop := 0 ≤ t ∧ t ≤ 1099511627776
instance (t : Int) : Decidable (inTime t) := by unfold inTime; infer_instance
set_option maxHeartbeats 1000000 in
theorem within_in (t : Int) (w : World) : Calls Try.prog 35 #[.int .i64 t] w fun e w' => e = .returned (.bool (decide (inTime t))) ∧ w = w' := by
  by_cases h0 : 0 ≤ t
  · by_cases h1 : t ≤ 1099511627776
    · have e : decide (inTime t) = true := by simp [inTime, h0, h1]
      rw [e]
      clear e
      go_enter Try.func35, Try.ntmps35
      go_wp2
      go_ret
      exact ⟨rfl, rfl⟩
    · have e : decide (inTime t) = false := by simp [inTime, h1]
      rw [e]
      clear e
      go_enter Try.func35, Try.ntmps35
      go_wp2
      go_ret
      exact ⟨rfl, rfl⟩
  · have e : decide (inTime t) = false := by simp [inTime, h0]
    rw [e]
    clear e
    go_enter Try.func35, Try.ntmps35
    go_wp2
    go_ret
    exact ⟨rfl, rfl⟩
theorem assert_entry (v : Value) (W : World) : (Instr.typeAssert (.iface 95 v) 20 95 true).run Try.prog W = .ok (.tuple #[v, .bool true]) W := by
  simp [Instr.typeAssert, run_underlying Try.underlying95]
set_option maxHeartbeats 2000000 in
theorem of_in (h : CacM w g og mb most now R) (hr : r ∈ R) : Calls Try.prog 46 #[pt r.b] w fun e w' => e = .returned (.agg #[.string (str r.n), .int .i64 r.k, thV r.x r.A r.c]) ∧ Ext w w' := by
  obtain ⟨a, b, hb⟩ := h.elt hr
  have xa := ext_alloc w (.cells #[.string ⟨#[]⟩, .int .i64 0, .nilIface] 95)
  have hb2 := hb.ext xa
  have c0 := hb2.cell 0
  simp [entV] at c0
  have ha := fun W => assert_entry (.agg #[.string (str r.n), .int .i64 r.k, thV r.x r.A r.c]) W
  simp only [pt]
  obtain ⟨tt, tv, htv⟩ := thV_if r.x r.A r.c
  obtain ⟨sn, hsn⟩ : ∃ sn, str r.n = sn := ⟨_, rfl⟩
  rw [htv, hsn] at c0 ha ⊢
  have XA := hid xa
  clear h hb hb2 htv hsn xa
  go_enter Try.func46, Try.ntmps46
  go_wp2_with fail
  have r0 := ((Blk.new w 95 #[.string sn, .int .i64 r.k, .iface tt tv]).alloc (.cells #[.string sn, .int .i64 r.k, .iface tt tv] 95)).cell
  refine bodyPost_ret (v := .agg #[.string sn, .int .i64 r.k, .iface tt tv]) (by simp [results, Try.results46, go_sem, r0]) rfl ?_
  exact ⟨rfl, ext_trans (ext_alloc _ _) (ext_alloc _ _)⟩
set_option maxHeartbeats 1000000 in
theorem until_none (e : Int) (w : World) : Calls Try.prog 87 #[.agg #[.int .i64 e]] w fun r w' => r = .returned (.int .i64 e) ∧ Ext w w' := by
  go_enter Try.func87, Try.ntmps87
  go_wp2
  go_ret
  exact ⟨rfl, ext_alloc _ _⟩
set_option maxHeartbeats 1000000 in
theorem until_known (s : SetS) (rank e : Int) (A : Option Addr) (c : Nat) (w : World) : Calls Try.prog 88 #[.agg #[.string (str s.nm), .int .i64 s.ty, .int .i64 s.cl, .int .i64 s.ttl, .slice A s.data.length c, .int .i64 rank, .int .i64 e]] w fun r w' => r = .returned (.int .i64 e) ∧ Ext w w' := by
  go_enter Try.func88, Try.ntmps88
  go_wp2
  go_ret
  exact ⟨rfl, ext_alloc _ _⟩
theorem zero_elt (w : World) : (zeroValue 92).run Try.prog w = .ok (.pointer none) w := by kernel_rfl
/-- A look at the map. -/
theorem CacM.look (h : CacM w g og mb most now R) {n : List UInt8} {k : Int} (hk : wfN n k) : (Instr.lookup 62 (.map (some mb)) (.agg #[.string (str n), .int .i64 k]) true).run Try.prog w = .ok (.tuple #[(tabC R (kl (str n) k)).getD (.pointer none), .bool (tabC R (kl (str n) k)).isSome]) w := by
  have := h.2.2.1.look (t := 62) keyed Try.underlying62 (zero_elt w) (kl_key hk.key) true
  simpa [kv] using this
set_option maxHeartbeats 1000000 in
theorem len_no (h : CacM w g og mb most now R) : Calls Try.prog 18 #[pt g] w fun e w' => e = .returned (.int .i64 R.length) ∧ w = w' := by
  obtain ⟨_, _, _, c3, _⟩ := h.cells
  have C := hid (absent_no h)
  have hl := fun ty => h.2.2.1.len (t := 62) Try.underlying62 ty
  simp only [pt] at C ⊢
  clear h
  go_enter Try.func18, Try.ntmps18
  go_wp2_with fail
  refine C.out.mono ?_
  rintro e _ ⟨rfl, rfl⟩
  go_wp2
  go_ret
  exact ⟨rfl, rfl⟩
set_option maxHeartbeats 1000000 in
theorem new_bad (m : Int) (w : World) (h : m < 1 ∨ 4096 < m) : Calls Try.prog 11 #[.int .i64 m] w fun e w' => e = .returned (.tuple #[.pointer none, .int .i64 2]) ∧ w = w' := by
  have hh : m < 1 ∨ ¬ m < 1 ∧ 4096 < m := by omega
  clear h
  rcases hh with h1 | ⟨h1, h2⟩
  all_goals
    go_enter Try.func11, Try.ntmps11
    go_wp2
    go_ret2
    exact ⟨rfl, rfl⟩
set_option maxHeartbeats 1000000 in
set_option maxRecDepth 100000 in
theorem new_good (m : Int) (w : World) (h : 1 ≤ m ∧ m ≤ 4096) : Calls Try.prog 11 #[.int .i64 m] w fun e w' => ∃ g og mb, e = .returned (.tuple #[pt g, .int .i64 0]) ∧ CacB w' g og mb m 0 [] ∧ (∀ k, ownsC g og mb [] k → w.heap.size ≤ k) ∧ Ext w w' := by
  have H := hid h
  have q1 : ¬ m < 1 := by omega
  have q2 : ¬ 4096 < m := by omega
  have hmm := @run_makeMap Try.prog
  have C := hid (chain_new w)
  clear h
  go_enter Try.func11, Try.ntmps11
  go_wp2_with fail
  refine C.out.mono ?_
  rintro e w1 ⟨lb, rfl, h1, h2, h3⟩
  have H1 := hid h1
  have H2 := hid h2
  have H3 := hid h3
  clear h1 h2 h3
  go_wp2
  go_ret2
  refine ⟨w1.heap.size + 1, lb, w1.heap.size, rfl, ⟨⟨?_, (H1.out.ext (ext_alloc _ _)).ext (ext_alloc _ _), ((MapF.made w1 Try.prog 77).alloc _).congr fun x => by simp [tabC], by simp⟩, H.out.1, H.out.2, by omega, by omega, by simpa using by have := H.out.1; omega, by simp, List.Pairwise.nil⟩, ?_, ?_⟩
  · have := Blk.new (w1.alloc (.map #[] 0)) 64 #[.int .i64 m, .int .i64 0, pt lb, .map (some w1.heap.size)]
    simpa using this
  · have := H3.out.size
    have h2 := H2.out
    rintro k (rfl | rfl | rfl | ⟨r, hr, _⟩ | ⟨r, hr, _⟩)
    · omega
    · omega
    · omega
    · cases hr
    · cases hr
  · exact ext_trans H3.out (ext_trans (ext_alloc _ _) (ext_alloc _ _))
end
end Go.Proofs.Ytcddfenhkljpeaa

/- The contracts of octet.at (a deferred closure that recovers), octet.get and the reference's get. -/
import Derived.Test.YtfimfmghfjokjaaOctP
import Derived.Recover
import Derived.Laws.Panics
namespace Go.Proofs.Ytfimfmghfjokjaa
open Go.BK Go.RowKit
set_option linter.unusedVariables false

theorem be_type : Try.prog.rt.boundsError = 8 := by kernel_rfl

theorem at_missing : (Try.prog.info? 8).map (fun i => Instr.missingMethod #[("RuntimeError", 1)] i.methods) = some none := by kernel_rfl
theorem at_assert (v : Value) (W : World) : (Instr.typeAssert (.iface 8 v) 20 79 true).run Try.prog W = .ok (.tuple #[.iface 8 v, .bool true]) W := by
  obtain ⟨i, hi, hm⟩ := Option.map_eq_some_iff.1 at_missing
  simp [Instr.typeAssert, run_underlying Try.underlying79, typeInfo, hi, hm]
theorem at_assert_nil (W : World) : (Instr.typeAssert .nilIface 20 79 true).run Try.prog W = .ok (.tuple #[.nilIface, .bool false]) W := by
  simp [Instr.typeAssert, run_underlying Try.underlying79]

theorem at_frame (p v : Value) : #[p] ++ ((Array.replicate 13 undef).setIfInBounds 3 v).setIfInBounds 0 v = #[p, v, undef, undef, v, undef, undef, undef, undef, undef, undef, undef, undef, undef] := rfl

set_option maxHeartbeats 400000 in
theorem at_catch (g : Nat) (x : Int) (agg : Value) (older : List PanicEntry) (w : World) (hc : w.cell? ⟨g, 0, none⟩ = some (.int .i64 x)) (hz : w.frozen? ⟨g, 0, none⟩ = false) :
    CallsD Try.prog 38 #[.pointer (some ⟨g, 0, none⟩)] (.panicking ({ v := .iface 8 agg, recovered := false } :: older)) w fun e u' w' =>
      e = .returned (.tuple #[]) ∧ u' = .panicking ({ v := .iface 8 agg, recovered := true } :: older) ∧ w' = w.setCell ⟨g, 0, none⟩ (.int .i64 4) := by
  have h1 := at_assert agg
  refine callsD_of_wpS Try.func38 rfl fun c₀ cs hu => ?_
  apply wpS_seq
  apply wpS_region
  simp [wpOpsS, go_sem, recoverD, hu, Try.ntmps38, Exit.thenS]
  rw [at_frame]
  refine wpS_of_wp ?_
  go_wp2
  simp [bodyPostS, results, Try.results38]

set_option maxHeartbeats 400000 in
theorem at_idle (p : Addr) (w : World) :
    CallsD Try.prog 38 #[.pointer (some p)] .returning w fun e u' w' => e = .returned (.tuple #[]) ∧ u' = .returning ∧ w' = w := by
  have h1 := at_assert_nil
  refine callsD_of_wpS Try.func38 rfl fun c₀ cs hu => ?_
  apply wpS_seq
  apply wpS_region
  simp [wpOpsS, go_sem, recoverD, hu, Try.ntmps38, Exit.thenS]
  rw [at_frame]
  refine wpS_of_wp ?_
  go_wp2
  cases c₀
  simp_all [bodyPostS, results, Try.results38]

set_option maxHeartbeats 1000000 in
/-- octet.at, the place within. -/
theorem at_in {A : Option Addr} {c : Nat} {l : List UInt8} {w : World} (k : Nat) (h : Rd w A c l) (hk : k < l.length) :
    Calls Try.prog 36 #[.slice A l.length c, .int .i64 k] w fun e w' => e = .returned (.tuple #[u8v (l.getD k 0), .int .i64 0]) ∧ Ext w w' := by
  have hmf : ∀ (fn : Fn) (first cap : Array Value) (w : World), (Instr.makeFunc fn first cap).run Try.prog w = .ok (.func fn first cap) w := fun _ _ _ _ => rfl
  obtain ⟨b, o, rfl, hb, hc⟩ := h.at_ hk
  obtain ⟨x, hx⟩ : ∃ x, x = l.getD k 0 := ⟨_, rfl⟩
  rw [← hx] at hc ⊢
  have hn := h.n_le
  have hc1 : ∀ o', (w.alloc o').cell? ⟨b, o + k, none⟩ = some (u8v x) := fun o' => (World.cell?_alloc_lt w o' ⟨b, o + k, none⟩ hb).trans hc
  have hne : ¬ b = w.heap.size := by omega
  clear hx h
  go_enter_defers Try.func36, Try.ntmps36
  go_wp2
  refine leaves_cons (f := 38) (args := #[.pointer (some ⟨w.heap.size, 0, none⟩)]) (by simp) (by simp [go_sem]) ?_
  refine (at_idle ⟨w.heap.size, 0, none⟩ _).mono ?_
  rintro e u' w'' ⟨rfl, rfl, rfl⟩
  simp [Leaves, settle, results, Try.results36, go_sem]
  exact ext_alloc _ _

theorem run_boundsPanic_drewN {α : Type} {P : Program} {w : World} (k : IntKind) (x y : Int) (code : BoundsCode) :
    ∃ s n, (boundsPanic k x y code : Sem α).run P w = .halt (.panic (boundsValue P (IntKind.i64.wrap x) y s code.toNat)) (w.drewN n) := by
  unfold boundsPanic boundsValue
  split
  · exact ⟨(w.tape w.drawn (.extern "runtime.boundsError.signed" 2) % 2 == 1), 1, by simp [runtimePanic, goPanic, go_sem, Question.forced, Question.cut]; rfl⟩
  · exact ⟨(k != .u64), 0, by simp [runtimePanic, goPanic, go_sem]; rfl⟩

theorem run_indexAt_past {P : Program} {w : World} (t e : TypeId) (A : Option Addr) (n c : Nat) (k : IntKind) (i : Int) (h : P.underlying t = some (.slice e)) (hA : A = none → n = 0) (ho : i < 0 ∨ (n : Int) ≤ i) :
    ∃ s m, (Instr.indexAt t (.slice A n c) (.int k i)).run P w = .halt (.panic (boundsValue P (IntKind.i64.wrap i) n s 0)) (w.drewN m) := by
  have hn : ¬ (0 ≤ i ∧ i < (n : Int)) := by omega
  obtain ⟨s, m, hr⟩ := run_boundsPanic_drewN (α := Value) (P := P) (w := w) k i n .index
  refine ⟨s, m, ?_⟩
  rw [← show BoundsCode.index.toNat = 0 from rfl, ← hr]
  rcases A with _ | a
  · obtain rfl := hA rfl
    simp [Instr.indexAt, run_underlying h, asIntOf]
  · simp [Instr.indexAt, run_underlying h, asIntOf, hn]

set_option maxHeartbeats 1000000 in
/-- octet.at, the place behind all. -/
theorem at_out {A : Option Addr} {c : Nat} {l : List UInt8} {w : World} (k : Nat) (h : Rd w A c l) (hk : l.length ≤ k) (hk2 : k ≤ 9223372036854775807) :
    Calls Try.prog 36 #[.slice A l.length c, .int .i64 k] w fun e w' => e = .returned (.tuple #[.int .u8 0, .int .i64 4]) ∧ Ext w w' := by
  have hmf : ∀ (fn : Fn) (first cap : Array Value) (w : World), (Instr.makeFunc fn first cap).run Try.prog w = .ok (.func fn first cap) w := fun _ _ _ _ => rfl
  have hA : A = none → l.length = 0 := by
    intro hA
    rcases Nat.eq_zero_or_pos l.length with h0 | h0
    · exact h0
    · obtain ⟨b, hb, _⟩ := h.lt h0
      rw [hA] at hb; cases hb
  obtain ⟨s, m, hrun⟩ := run_indexAt_past (P := Try.prog) (w := w.alloc (.cells #[.int .i64 0] 24)) 22 5 A l.length c .i64 k Try.underlying22 hA (.inr (by omega))
  unfold boundsValue at hrun
  rw [be_type] at hrun
  clear hA h
  go_enter_defers Try.func36, Try.ntmps36
  go_wp2
  refine leaves_cons (f := 38) (args := #[.pointer (some ⟨w.heap.size, 0, none⟩)]) (by simp) (by simp [go_sem]) ?_
  refine (at_catch w.heap.size 0 _ [] _ ?_ ?_).mono ?_
  · simp [go_sem]
  · simp [go_sem]
  rintro e u' w'' ⟨rfl, rfl, rfl⟩
  simp [Leaves, settle, results, Try.results36, go_sem]
  refine Below.setCell ?_ (by simp) _
  exact Below.trans (ext_alloc _ _) (below_drewN (Below.refl _ _) m)

end Go.Proofs.Ytfimfmghfjokjaa

/- Layer 29: ScriptBehind's walk. -/
import Derived.Test.YtholjbnggnfapaaScrK
import Derived.Test.YtholjbnggnfapaaScrH
import Derived.Test.YtholjbnggnfapaaKCopy
import Derived.Test.YtholjbnggnfapaaKPick
namespace Go.Proofs.Ytholjbnggnfapaa
open Go.BK Go.BK.SC Go.RowKit Go.Maps
set_option linter.unusedVariables false
set_option linter.unusedSimpArgs false
section
variable {w w' : World} {c c2 n : Nat} {A A2 : Option Addr} {M M2 : List Em}
theorem EvR.take (h : EvR w A c M) (n : Nat) (hn : n ≤ M.length) : EvR w A c (M.take n) := by
  have e : cellsL (M.take n) = (cellsL M).take (n * 7) := by
    have h1 := cellsL_append (M.take n) (M.drop n)
    rw [List.take_append_drop] at h1
    have h2 := cellsL_len (M.take n)
    rw [List.length_take, Nat.min_eq_left hn] at h2
    rw [h1, ← h2, List.take_left']
    rfl
  refine ⟨?_, fun m hm => h.2 m (List.mem_of_mem_take hm)⟩
  have := h.1.cut (i := 0) (j := n) (Nat.zero_le _) hn (A' := A) (fun _ => by rw [Nat.zero_mul, mapAdd_zero])
  rw [Nat.zero_mul, Nat.sub_zero, Nat.sub_zero, List.drop_zero, ← e] at this
  rw [List.length_take, Nat.min_eq_left hn]
  exact this
theorem rd_take {l : List UInt8} (h : Rd w A c l) (n : Nat) (hn : n ≤ l.length) : Rd w A c (l.take n) := by
  unfold Rd at h ⊢
  have := h.cut (i := 0) (j := n) (Nat.zero_le _) hn (A' := A) (fun _ => by rw [Nat.zero_mul, mapAdd_zero])
  rw [Nat.zero_mul, Nat.sub_zero, Nat.sub_zero, List.drop_zero, Nat.mul_one, ← List.map_take] at this
  rw [List.length_take, Nat.min_eq_left hn]
  exact this
theorem same_events_n {n m : Nat} (h : EvR w A c M) (h2 : EvR w A2 c2 M2) (he : M.map Em.e = M2.map Em.e) (hn : M.length = n) (hm : M2.length = m) : Calls Try.prog 12 #[.slice A n c, .slice A2 m c2] w fun r w' => r = .returned (.bool true) ∧ Ext w w' := by
  subst hn; subst hm
  exact same_events h h2 he
theorem wf_small (e : Ev) (h : e.b.length ≤ 4096) (hf : fit e) : WfE e := by
  obtain ⟨_, h⟩ := hf
  have hk := ev_kind (layS e)
  have hr := kind_range (layS e)
  have key : ∀ (fs : List F) (a : Ev) (l : List UInt8), (0 ≤ a.sort ∧ a.sort ≤ 2 ^ 40) ∧ (0 ≤ a.who ∧ a.who ≤ 2 ^ 40) ∧ (0 ≤ a.port ∧ a.port ≤ 2 ^ 40) ∧ (0 ≤ a.conn ∧ a.conn ≤ 2 ^ 40) ∧ (0 ≤ a.n ∧ a.n ≤ 2 ^ 40) →
      (0 ≤ (readFs a fs l).1.sort ∧ (readFs a fs l).1.sort ≤ 2 ^ 40) ∧ (0 ≤ (readFs a fs l).1.who ∧ (readFs a fs l).1.who ≤ 2 ^ 40) ∧ (0 ≤ (readFs a fs l).1.port ∧ (readFs a fs l).1.port ≤ 2 ^ 40) ∧ (0 ≤ (readFs a fs l).1.conn ∧ (readFs a fs l).1.conn ≤ 2 ^ 40) ∧ (0 ≤ (readFs a fs l).1.n ∧ (readFs a fs l).1.n ≤ 2 ^ 40) := by
    intro fs
    induction fs with
    | nil => intro a l ha; exact ha
    | cons f fs ih =>
      intro a l ha
      refine ih _ _ ?_
      have h4 := num_lt 4 l
      have h2 := num_lt 2 l
      cases f <;> simp only [setF, F.size] <;> omega
  have h0 := key (fieldsS (kindS (layS e))) (ev0 (kindS (layS e))) ((layS e).drop 1) (by simp [ev0])
  have h1 : (readFs (ev0 (kindS (layS e))) (fieldsS (kindS (layS e))) ((layS e).drop 1)).1 = e := h
  rw [h1] at h0
  rw [h] at hk
  unfold wf64 at *
  constructor <;> (unfold wf64; omega)
theorem wf_of {M : List Em} {f : Nat} {l : List UInt8} (h : M.map Em.e = eventsS f l) : ∀ m ∈ M, WfE m.e := fun m hm => by
  have h1 : m.e ∈ eventsS f l := by rw [← h]; exact List.mem_map_of_mem hm
  have h2 := events_fit f l m.e h1
  exact wf_small _ h2.1 h2
theorem bytes_ok {L : List Ev} {f : Nat} {l : List UInt8} (h : L = eventsS f l) (hf : f ≤ 4096) : bytesS L = (L.flatMap layS, 0) := by
  have h1 := (events_len f l).2
  rw [← h] at h1
  unfold bytesS
  rw [if_neg (by omega), if_pos (fun e he => events_fit f l e (h ▸ he))]
end
end Go.Proofs.Ytholjbnggnfapaa

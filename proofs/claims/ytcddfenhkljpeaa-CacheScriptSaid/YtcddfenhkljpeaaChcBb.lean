import Derived.Test.YtcddfenhkljpeaaChcBa
import Derived.Test.YtcddfenhkljpeaaCsD
import Derived.Test.YtcddfenhkljpeaaChcQ
/- Layer 23: the document's cache in memory; New, time, At. -/
namespace Go.BK.CH
structure TRow where
  e : Ent
  A : Option Addr
  c : Nat
def setOf : Th → SetS
  | .known s _ _ => s
  | .none _ => ⟨[], 0, 0, 0, []⟩
def rankOf : Th → Int
  | .known _ r _ => r
  | .none _ => 0
def isOf : Th → Bool
  | .known _ _ _ => true
  | .none _ => false
def tr0 : TRow := ⟨⟨[], 0, .none 0⟩, none, 0⟩
end Go.BK.CH
namespace Go.Proofs.Ytcddfenhkljpeaa
open Go.BK Go.BK.CH Go.BK.NM Go.RowKit Go.Maps
set_option linter.unusedVariables false
set_option linter.unusedSimpArgs false
def cellsT (r : TRow) : List Value := [.string (str r.e.n), .int .i64 r.e.k, .int .i64 r.e.x.till, .bool (isOf r.e.x), .string (str (setOf r.e.x).nm), .int .i64 (setOf r.e.x).ty, .int .i64 (setOf r.e.x).cl, .int .i64 (setOf r.e.x).ttl, .slice r.A (setOf r.e.x).data.length r.c, .int .i64 (rankOf r.e.x)]
def cellsTM (T : List TRow) : List Value := T.flatMap cellsT
theorem cellsTM_len (M : List TRow) : (cellsTM M).length = M.length * 10 := by
  induction M with
  | nil => rfl
  | cons m M ih =>
    have : cellsTM (m :: M) = cellsT m ++ cellsTM M := by simp [cellsTM]
    rw [this, List.length_append, ih]
    simp [cellsT]
    omega
theorem cellsTM_at (M : List TRow) (j i : Nat) (u : Value) (hj : j < M.length) (hu : (cellsT (M.getD j tr0))[i]? = some u) : (cellsTM M)[j * 10 + i]? = some u := by
  induction M generalizing j with
  | nil => simp at hj
  | cons m M ih =>
    have e : cellsTM (m :: M) = cellsT m ++ cellsTM M := by simp [cellsTM]
    have hl : (cellsT m).length = 10 := rfl
    rw [e]
    cases j with
    | zero =>
      have hi : i < 10 := (List.getElem?_eq_some_iff.1 hu).1
      rw [List.getElem?_append_left (by rw [hl]; omega)]
      simpa using hu
    | succ j =>
      rw [List.getElem?_append_right (by rw [hl]; omega), hl, show (j + 1) * 10 + i - 10 = j * 10 + i from by omega]
      exact ih j (by simpa using hj) (by simpa using hu)
theorem cellsTM_app (M N : List TRow) : cellsTM (M ++ N) = cellsTM M ++ cellsTM N := by simp [cellsTM]
/-- The document's cache in memory. -/
structure RefC (w : World) (g : Nat) (most now : Int) (A : Option Addr) (c : Nat) (T : List TRow) : Prop where
  b : Blk w g 58 #[.int .i64 most, .slice A T.length c, .int .i64 now]
  r : RdG w 10 A T.length c (cellsTM T)
  d : ∀ t ∈ T, RdG w 1 t.A (setOf t.e.x).data.length t.c (tvs (setOf t.e.x).data)
  ne : (0 < T.length → blk A ≠ some g) ∧ ∀ t ∈ T, 0 < (setOf t.e.x).data.length → blk t.A ≠ some g
section
variable {w w' : World} {g : Nat} {most now : Int} {A : Option Addr} {c : Nat} {T : List TRow}
theorem RefC.ext (h : RefC w g most now A c T) (x : Ext w w') : RefC w' g most now A c T := ⟨h.b.ext x, h.r.ext x, fun t ht => (h.d t ht).ext x, h.ne⟩
theorem RefC.at_ (h : RefC w g most now A c T) (h0 : 0 < T.length) : ∃ b o, A = some ⟨b, o, none⟩ ∧ b < w.heap.size ∧ ∀ j, j < T.length → ∃ t, t ∈ T ∧ T.getD j tr0 = t ∧ ∀ i u, (cellsT t)[i]? = some u → w.cell? ⟨b, o + j * 10 + i, none⟩ = some u := by
  obtain ⟨b, o, hA, hb, hc⟩ := h.r.2.2.2 h0
  refine ⟨b, o, hA, hb, fun j hj => ⟨T.getD j tr0, by simp [List.getD, hj], rfl, fun i u hu => ?_⟩⟩
  rw [Nat.add_assoc]
  exact hc _ _ (cellsTM_at T j i u hj hu)
set_option maxHeartbeats 1000000 in
theorem rnew_bad (m : Int) (w : World) (h : m < 1 ∨ 4096 < m) : Calls Try.prog 21 #[.int .i64 m] w fun e w' => e = .returned (.tuple #[.pointer none, .int .i64 2]) ∧ w = w' := by
  have hh : m < 1 ∨ ¬ m < 1 ∧ 4096 < m := by omega
  clear h
  rcases hh with h1 | ⟨h1, h2⟩
  all_goals
    go_enter Try.func21, Try.ntmps21
    go_wp2
    go_ret2
    exact ⟨rfl, rfl⟩
set_option maxHeartbeats 1000000 in
theorem rnew_good (m : Int) (w : World) (h : 1 ≤ m ∧ m ≤ 4096) : Calls Try.prog 21 #[.int .i64 m] w fun e w' => e = .returned (.tuple #[pt w.heap.size, .int .i64 0]) ∧ RefC w' w.heap.size m 0 none 0 [] ∧ Ext w w' := by
  have q1 : ¬ m < 1 := by omega
  have q2 : ¬ 4096 < m := by omega
  go_enter Try.func21, Try.ntmps21
  go_wp2
  go_ret2
  exact ⟨rfl, ⟨Blk.new w 58 #[.int .i64 m, .slice none 0 0, .int .i64 0], RdG.none_ _ _, by simp, by simp, by simp⟩, ext_alloc _ _⟩
set_option maxHeartbeats 1000000 in
theorem rtime_in (t : Int) (w : World) : Calls Try.prog 49 #[.int .i64 t] w fun e w' => e = .returned (.bool (decide (inTime t))) ∧ w = w' := by
  by_cases h0 : 0 ≤ t
  · by_cases h1 : t ≤ 1099511627776
    · have e : decide (inTime t) = true := by simp [inTime, h0, h1]
      rw [e]
      clear e
      go_enter Try.func49, Try.ntmps49
      go_wp2
      go_ret
      exact ⟨rfl, rfl⟩
    · have e : decide (inTime t) = false := by simp [inTime, h1]
      rw [e]
      clear e
      go_enter Try.func49, Try.ntmps49
      go_wp2
      go_ret
      exact ⟨rfl, rfl⟩
  · have e : decide (inTime t) = false := by simp [inTime, h0]
    rw [e]
    clear e
    go_enter Try.func49, Try.ntmps49
    go_wp2
    go_ret
    exact ⟨rfl, rfl⟩
end
end Go.Proofs.Ytcddfenhkljpeaa

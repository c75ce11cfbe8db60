/- Layer 19: room, where there is some. -/
import Derived.Test.YtnoepnbgnlolbaaRrlF
namespace Go.Proofs.Ytnoepnbgnlolbaa
open Go.BK Go.RowKit Go.Maps
set_option linter.unusedVariables false
set_option maxHeartbeats 1000000 in
set_option maxRecDepth 100000 in
theorem room_yes {w : World} {g mb : Nat} {A : Option Addr} {cc : Nat} {p : Par} {now : Int} {P : List Row} (h : LimB w g mb A cc p now P) (hl : (P.length : Int) < p.most) :
    Calls Try.prog 15 #[.pointer (some ⟨g, 0, none⟩)] w fun e w' => e = .returned (.bool true) ∧ ∃ n, w' = w.drewN n := by
  obtain ⟨c0, _, _, _, _, c5, _, cf⟩ := h.cells
  have hln : ∀ nq, (Builtin.len_ #[24] 3 #[.map (some mb)]).run Try.prog (w.drewN nq) = .ok (.int .i64 P.length) (w.drewN nq) := fun nq => (h.2.1.ext (ext_drewN w nq)).len Try.underlying24 3
  have q : decide ((P.length : Int) < p.most) = true := by simpa using hl
  clear h
  go_enter Try.func15, Try.ntmps15
  go_wp2_with fail
  go_quiet (fail)
  go_wp2
  go_ret
  exact ⟨rfl, _, rfl⟩
/-- A row is laid behind the others. -/
theorem LimB.add {w w' : World} {g mb : Nat} {A A' : Option Addr} {cc cc' : Nat} {p : Par} {now : Int} {P : List Row} (h : LimB w g mb A cc p now P) (c : Int) (n : ByteArray) (tb : Nat) (hk : wfK c n) (hno : ∀ r ∈ P, ¬ r.is c n) (hl : (P.length : Int) < p.most) (htb : w.heap.size ≤ tb)
    (hs : Shy (fun k => k = g ∨ k = mb ∨ blk A = some k) w w') (h1 : Blk w' g 27 #[.int .i64 p.most, .int .i64 p.limit, .int .i64 p.window, .int .i64 p.slip, .int .i64 now, .map (some mb), .slice A' (P.length + 1) cc'])
    (h2 : MapF Try.prog w' 46 mb (putF (tabR P) (kl c n) (.pointer (some ⟨tb, 0, none⟩))) (P.length + 1)) (h3 : OwnG isOne w' 0 46 2 A' (P.length + 1) cc' (cellsR P ++ [.int .i64 c, .string n]))
    (h4 : Blk w' tb 50 #[.int .i64 now, .int .i64 0]) : LimB w' g mb A' cc' p now (P ++ [(⟨c, n, now, 0⟩, tb)]) := by
  have hgr := fun (r : Row) (hr : r ∈ P) => h.gr hr
  have hmr := fun (r : Row) (hr : r ∈ P) => h.mr hr
  have hrA := fun (r : Row) (hr : r ∈ P) => h.rA hr
  obtain ⟨_, _, _, k4, k5⟩ := h
  obtain ⟨o1, o2, o3, o4, o5, o6, o7⟩ := k5
  have hlen : (P ++ [((⟨c, n, now, 0⟩, tb) : Row)]).length = P.length + 1 := by simp
  have hrow : Ent.ok ⟨c, n, now, 0⟩ := ⟨hk, o2, o3, Int.le_refl _, by simp⟩
  have hce : cellsR (P ++ [((⟨c, n, now, 0⟩, tb) : Row)]) = cellsR P ++ [.int .i64 c, .string n] := by simp [cellsR]
  refine ⟨by rw [hlen]; exact h1, ?_, by rw [hlen, hce]; exact h3, ?_, o1, o2, o3, by rw [hlen]; omega, ?_, ?_, ?_⟩
  · rw [hlen]
    exact h2.congr fun x => tab_put (r := (⟨c, n, now, 0⟩, tb)) o5 hrow hno x
  · intro r hr
    rcases List.mem_append.1 hr with hr | hr
    · exact (hs.block _ (k4 r hr).lt (fun e => by
        rcases e with e | e | e
        · exact hgr r hr e.symm
        · exact hmr r hr e
        · exact hrA r hr e)).trans (k4 r hr)
    · rw [List.mem_singleton] at hr; subst hr; exact h4
  · intro r hr
    rcases List.mem_append.1 hr with hr | hr
    · exact o5 r hr
    · rw [List.mem_singleton] at hr; subst hr; exact hrow
  · rw [List.pairwise_append]
    refine ⟨o6, by simp, fun r hr s hs' => ?_⟩
    rw [List.mem_singleton] at hs'; subst hs'
    exact hno r hr
  · rw [List.pairwise_append]
    refine ⟨o7, by simp, fun r hr s hs' => ?_⟩
    rw [List.mem_singleton] at hs'; subst hs'
    have := (k4 r hr).lt
    simp only; omega
end Go.Proofs.Ytnoepnbgnlolbaa

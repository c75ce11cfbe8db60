/- Layer 19: New, over, Len, Count. -/
import Derived.Test.YtnoepnbgnlolbaaRrlA
import Derived.Deep.QuietTactic
import Derived.BigQuiet
import Derived.RegionTactic
import Derived.Outline
namespace Go.Proofs.Ytnoepnbgnlolbaa
open Go.BK Go.RowKit Go.Maps
set_option linter.unusedVariables false
set_option maxHeartbeats 1000000 in
set_option maxRecDepth 100000 in
theorem new_no (a b c d : Int) (w : World) (h : ¬ Par.ok ⟨a, b, c, d⟩) :
    Calls Try.prog 12 #[.int .i64 a, .int .i64 b, .int .i64 c, .int .i64 d] w fun e w' => e = .returned (.tuple #[.pointer none, .int .i64 2]) ∧ w = w' := by
  have hh : a < 1 ∨ ¬ a < 1 ∧ (1024 < a ∨ ¬ 1024 < a ∧ (b < 0 ∨ ¬ b < 0 ∧ (1073741824 < b ∨ ¬ 1073741824 < b ∧ (c < 1 ∨ ¬ c < 1 ∧ (1073741824 < c ∨ ¬ 1073741824 < c ∧ (d < 0 ∨ ¬ d < 0 ∧ 1073741824 < d)))))) := by
    unfold Par.ok at h; simp only at h; omega
  clear h
  rcases hh with h1 | ⟨h1, h2 | ⟨h2, h3 | ⟨h3, h4 | ⟨h4, h5 | ⟨h5, h6 | ⟨h6, h7 | ⟨h7, h8⟩⟩⟩⟩⟩⟩⟩
  all_goals
    go_enter Try.func12, Try.ntmps12
    go_wp2
    go_ret2
    exact ⟨rfl, rfl⟩
set_option maxHeartbeats 1000000 in
set_option maxRecDepth 100000 in
theorem new_ok (p : Par) (w : World) (h : p.ok) :
    Calls Try.prog 12 #[.int .i64 p.most, .int .i64 p.limit, .int .i64 p.window, .int .i64 p.slip] w fun e w' => ∃ g mb, e = .returned (.tuple #[.pointer (some ⟨g, 0, none⟩), .int .i64 0]) ∧ LimB w' g mb none 0 p 0 [] ∧ w.heap.size ≤ g ∧ w.heap.size ≤ mb ∧ Ext w w' := by
  obtain ⟨h1, h2, h3, h4, h5, h6, h7, h8⟩ := id h
  have q1 : ¬ p.most < 1 := by omega
  have q2 : ¬ 1024 < p.most := by omega
  have q3 : ¬ p.limit < 0 := by omega
  have q4 : ¬ 1073741824 < p.limit := by omega
  have q5 : ¬ p.window < 1 := by omega
  have q6 : ¬ 1073741824 < p.window := by omega
  have q7 : ¬ p.slip < 0 := by omega
  have q8 : ¬ 1073741824 < p.slip := by omega
  have hmm := @run_makeMap Try.prog
  have HP := hid h
  clear h1 h2 h3 h4 h5 h6 h7 h8 h
  go_enter Try.func12, Try.ntmps12
  go_wp2
  go_ret2
  refine ⟨w.heap.size + 1, rfl, w.heap.size, ⟨?_, ?_, OwnG.nil _ _ _ _ _, by simp, HP.out, by omega, by omega, by have := HP.out.1; simp; omega, by simp, by simp, by simp⟩, by omega, by omega, ext_trans (ext_alloc _ _) (ext_alloc _ _)⟩
  · have := Blk.new (w.alloc (.map #[] 0)) 27 #[.int .i64 p.most, .int .i64 p.limit, .int .i64 p.window, .int .i64 p.slip, .int .i64 0, .map (some w.heap.size), .slice none 0 0]
    simpa using this
  · exact ((MapF.made w Try.prog 46).alloc _).congr fun x => by simp [tabR]
def overB (p : Par) (now b : Int) : Bool := decide (p.window ≤ now - b)
set_option maxHeartbeats 1000000 in
set_option maxRecDepth 100000 in
theorem over_any {w : World} {g mb t : Nat} {A : Option Addr} {cc : Nat} {p : Par} {now b k : Int} {P : List Row} (h : LimB w g mb A cc p now P) (ht : Blk w t 50 #[.int .i64 b, .int .i64 k]) (hb : 0 ≤ b ∧ b ≤ 1099511627776) :
    Calls Try.prog 16 #[.pointer (some ⟨g, 0, none⟩), .pointer (some ⟨t, 0, none⟩)] w fun e w' => e = .returned (.bool (overB p now b)) ∧ ∃ n, w' = w.drewN n := by
  obtain ⟨_, _, c2, _, c4, _, _, cf⟩ := h.cells
  obtain ⟨t0, _, tf⟩ := ht.two
  have hn := h.2.2.2.2.2.1
  have hn2 := h.2.2.2.2.2.2.1
  clear h ht
  go_enter Try.func16, Try.ntmps16
  go_wp2_with fail
  go_quiet (fail)
  go_wp2
  go_ret
  exact ⟨rfl, _, rfl⟩
set_option maxHeartbeats 1000000 in
theorem len_any {w : World} {g mb : Nat} {A : Option Addr} {cc : Nat} {p : Par} {now : Int} {P : List Row} (h : LimB w g mb A cc p now P) :
    Calls Try.prog 10 #[.pointer (some ⟨g, 0, none⟩)] w fun e w' => e = .returned (.int .i64 P.length) ∧ w = w' := by
  obtain ⟨_, _, _, _, _, c5, _, cf⟩ := h.cells
  have hl := h.2.1.len (P := Try.prog) (t := 24) Try.underlying24 3
  clear h
  go_enter Try.func10, Try.ntmps10
  go_wp2
  go_ret
  exact ⟨rfl, rfl⟩
theorem zero_ptr (w : World) : (zeroValue 47).run Try.prog w = .ok (.pointer none) w := by kernel_rfl
set_option maxHeartbeats 1000000 in
theorem count_no {w : World} {g mb : Nat} {A : Option Addr} {cc : Nat} {p : Par} {now : Int} {P : List Row} (c : Int) (n : ByteArray) (h : LimB w g mb A cc p now P) (hk : wfK c n) (hno : ∀ r ∈ P, ¬ r.is c n) :
    Calls Try.prog 11 #[.pointer (some ⟨g, 0, none⟩), .int .i64 c, .string n] w fun e w' => e = .returned (.int .i64 0) ∧ w = w' := by
  obtain ⟨_, _, _, _, _, c5, _, cf⟩ := h.cells
  have hl := h.2.1.look (t := 24) keyed Try.underlying24 (zero_ptr w) (kl_key hk) true
  rw [tab_no h.2.2.2.2.2.2.2.2.1 hk hno] at hl
  unfold kv at hl
  simp only [Option.getD_none, Option.isSome_none, if_true] at hl
  clear h
  go_enter Try.func11, Try.ntmps11
  go_wp2
  go_ret
  exact ⟨rfl, rfl⟩
set_option maxHeartbeats 1000000 in
theorem count_yes {w : World} {g mb : Nat} {A : Option Addr} {cc : Nat} {p : Par} {now : Int} {P1 P2 : List Row} (r : Row) (h : LimB w g mb A cc p now (P1 ++ r :: P2)) :
    Calls Try.prog 11 #[.pointer (some ⟨g, 0, none⟩), .int .i64 r.1.c, .string r.1.n] w fun e w' => e = .returned (.int .i64 r.1.k) ∧ w = w' := by
  obtain ⟨_, _, _, _, _, c5, _, cf⟩ := h.cells
  have hk : wfK r.1.c r.1.n := (h.2.2.2.2.2.2.2.2.1 r (by simp)).1
  have hl := h.2.1.look (t := 24) keyed Try.underlying24 (zero_ptr w) (kl_key hk) true
  rw [tab_at h.2.2.2.2.2.2.2.2.1 h.2.2.2.2.2.2.2.2.2.1] at hl
  unfold kv at hl
  simp only [Option.getD_some, Option.isSome_some, if_true] at hl
  obtain ⟨_, t1, _⟩ := (h.2.2.2.1 r (by simp)).two
  clear h
  go_enter Try.func11, Try.ntmps11
  go_wp2
  go_ret
  exact ⟨rfl, rfl⟩
end Go.Proofs.Ytnoepnbgnlolbaa

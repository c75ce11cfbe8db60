/- Layer 19: Judge, of a key that is not looked after, where no key more is borne nor goes one. -/
import Derived.Test.YtnoepnbgnlolbaaRrlE
import Derived.Test.YtnoepnbgnlolbaaRrlH
import Derived.Deep.RegionLaw
import Derived.RegionTactic
import Derived.BigRegion
namespace Go.Proofs.Ytnoepnbgnlolbaa
open Go.BK Go.RowKit Go.Maps
set_option linter.unusedVariables false
set_option maxHeartbeats 4000000 in
set_option maxRecDepth 100000 in
theorem judge_full_t {w : World} {g mb : Nat} {A : Option Addr} {cc : Nat} {p : Par} {now : Int} {P : List Row} (c : Int) (n : ByteArray) (t : Int) (h : LimB w g mb A cc p now P) (hkb : wfK c n) (hno : ∀ r ∈ P, ¬ r.is c n) (hl : (P.length : Int) = p.most) (hG : goesK p t P P.length = none) (ht : 0 ≤ t ∧ t ≤ 1099511627776) (hle : now < t) :
    Calls Try.prog 9 #[.pointer (some ⟨g, 0, none⟩), .int .i64 c, .string n, .int .i64 t] w fun e w' => e = .returned (.int .i64 2) ∧ LimB w' g mb A cc p t P ∧ Shy (fun k => k = g) w w' := by
  obtain ⟨hp1, hp2, hp3, hp4, hp5, hp6, hp7, hp8⟩ := h.2.2.2.2.1
  have hn0 := h.2.2.2.2.2.1
  have hn1 := h.2.2.2.2.2.2.1
  obtain ⟨hrc, hrn⟩ := id hkb
  obtain ⟨c0, _, _, _, c4, _, _, cf⟩ := h.cells
  obtain ⟨ht0, ht1⟩ := ht
  have L1 := h.now' t ⟨by omega, by omega⟩
  have s1 := set_shy g 4 (.int .i64 t) w
  have q1 : (p.most == 0) = false := by simp; omega
  have L2 := L1.ext (ext_alloc _ (.cells #[.int .i64 c, .string n] 46))
  have s2 := s1.ext (ext_alloc _ (.cells #[.int .i64 c, .string n] 46))
  have KB := Blk.new (w.setCell ⟨g, 4, none⟩ (.int .i64 t)) 46 #[.int .i64 c, .string n]
  rw [show (w.setCell ⟨g, 4, none⟩ (.int .i64 t)).heap.size = w.heap.size from by simp [World.setCell]] at KB
  have hszA : ((w.setCell ⟨g, 4, none⟩ (.int .i64 t)).alloc (.cells #[.int .i64 c, .string n] 46)).heap.size = w.heap.size + 1 := by simp [World.setCell]
  clear h L1 s1
  have q2 : decide ((255 : Int) < (n.size : Int)) = false := by simp; omega
  have q3 : decide (t < 0) = false := by simp; omega
  have q4 : decide ((1099511627776 : Int) < t) = false := by simp; omega
  have hmx : max now t = t := by omega
  go_enter Try.func9, Try.ntmps9
  go_wp2_with fail
  generalize (w.setCell ⟨g, 4, none⟩ (.int .i64 t)).alloc (.cells #[.int .i64 c, .string n] 46) = wA at L2 s2 KB hszA ⊢
  have hlk : ∀ nq, (Instr.lookup 24 (.map (some mb)) (.agg #[.int .i64 c, .string n]) true).run Try.prog (wA.drewN nq) = .ok (.tuple #[.pointer none, .bool false]) (wA.drewN nq) := by
    intro nq
    have hl := (L2.2.1.ext (ext_drewN wA nq)).look (t := 24) keyed Try.underlying24 (zero_ptr _) (kl_key hkb) true
    rw [tab_no L2.2.2.2.2.2.2.2.2.1 hkb hno] at hl
    exact hl
  have hrm := hid (fun nq => room_full (L2.ext (ext_drewN wA nq)) hl)
  have HG := hid hG
  clear hG
  have HL := hid hl
  clear hl
  clear c0 c4 cf hmx
  obtain ⟨d0, d1, d2, d3, d4, d5, d6, df⟩ := L2.cells
  obtain ⟨e0, e1, ef⟩ := KB.two
  have L2 := hid L2
  have s2 := hid s2
  have KB := hid KB
  go_quiet (fail)
  go_wp2_with fail
  refine (hrm.out _).mono ?_
  intro e W2 hr2
  rw [HG.out] at hr2
  obtain ⟨rfl, x2⟩ := hr2
  clear d0 d1 d2 d3 d4 d5 d6 df e0 e1 ef hlk
  have x2 := hid x2
  go_wp2_with fail
  go_ret
  exact ⟨rfl, (L2.out.ext (ext_drewN wA nq)).ext x2.out, Shy.trans s2.out (Shy.of_ext (U := fun k => k = g) (ext_trans (ext_drewN wA nq) x2.out)) fun _ _ h => h⟩
set_option maxHeartbeats 4000000 in
set_option maxRecDepth 100000 in
theorem judge_full_n {w : World} {g mb : Nat} {A : Option Addr} {cc : Nat} {p : Par} {now : Int} {P : List Row} (c : Int) (n : ByteArray) (t : Int) (h : LimB w g mb A cc p now P) (hkb : wfK c n) (hno : ∀ r ∈ P, ¬ r.is c n) (hl : (P.length : Int) = p.most) (hG : goesK p now P P.length = none) (ht : 0 ≤ t ∧ t ≤ 1099511627776) (hle : t ≤ now) :
    Calls Try.prog 9 #[.pointer (some ⟨g, 0, none⟩), .int .i64 c, .string n, .int .i64 t] w fun e w' => e = .returned (.int .i64 2) ∧ LimB w' g mb A cc p now P ∧ Shy (fun k => k = g) w w' := by
  obtain ⟨hp1, hp2, hp3, hp4, hp5, hp6, hp7, hp8⟩ := h.2.2.2.2.1
  have hn0 := h.2.2.2.2.2.1
  have hn1 := h.2.2.2.2.2.2.1
  obtain ⟨hrc, hrn⟩ := id hkb
  obtain ⟨c0, _, _, _, c4, _, _, cf⟩ := h.cells
  obtain ⟨ht0, ht1⟩ := ht
  have L1 := h.now' now ⟨by omega, by omega⟩
  have s1 := set_shy g 4 (.int .i64 now) w
  have q1 : (p.most == 0) = false := by simp; omega
  have L2 := L1.ext (ext_alloc _ (.cells #[.int .i64 c, .string n] 46))
  have s2 := s1.ext (ext_alloc _ (.cells #[.int .i64 c, .string n] 46))
  have KB := Blk.new (w.setCell ⟨g, 4, none⟩ (.int .i64 now)) 46 #[.int .i64 c, .string n]
  rw [show (w.setCell ⟨g, 4, none⟩ (.int .i64 now)).heap.size = w.heap.size from by simp [World.setCell]] at KB
  have hszA : ((w.setCell ⟨g, 4, none⟩ (.int .i64 now)).alloc (.cells #[.int .i64 c, .string n] 46)).heap.size = w.heap.size + 1 := by simp [World.setCell]
  clear h L1 s1
  have q2 : decide ((255 : Int) < (n.size : Int)) = false := by simp; omega
  have q3 : decide (t < 0) = false := by simp; omega
  have q4 : decide ((1099511627776 : Int) < t) = false := by simp; omega
  have hmx : max now t = now := by omega
  go_enter Try.func9, Try.ntmps9
  go_wp2_with fail
  generalize (w.setCell ⟨g, 4, none⟩ (.int .i64 now)).alloc (.cells #[.int .i64 c, .string n] 46) = wA at L2 s2 KB hszA ⊢
  have hlk : ∀ nq, (Instr.lookup 24 (.map (some mb)) (.agg #[.int .i64 c, .string n]) true).run Try.prog (wA.drewN nq) = .ok (.tuple #[.pointer none, .bool false]) (wA.drewN nq) := by
    intro nq
    have hl := (L2.2.1.ext (ext_drewN wA nq)).look (t := 24) keyed Try.underlying24 (zero_ptr _) (kl_key hkb) true
    rw [tab_no L2.2.2.2.2.2.2.2.2.1 hkb hno] at hl
    exact hl
  have hrm := hid (fun nq => room_full (L2.ext (ext_drewN wA nq)) hl)
  have HG := hid hG
  clear hG
  have HL := hid hl
  clear hl
  clear c0 c4 cf hmx
  obtain ⟨d0, d1, d2, d3, d4, d5, d6, df⟩ := L2.cells
  obtain ⟨e0, e1, ef⟩ := KB.two
  have L2 := hid L2
  have s2 := hid s2
  have KB := hid KB
  go_quiet (fail)
  go_wp2_with fail
  refine (hrm.out _).mono ?_
  intro e W2 hr2
  rw [HG.out] at hr2
  obtain ⟨rfl, x2⟩ := hr2
  clear d0 d1 d2 d3 d4 d5 d6 df e0 e1 ef hlk
  have x2 := hid x2
  go_wp2_with fail
  go_ret
  exact ⟨rfl, (L2.out.ext (ext_drewN wA nq)).ext x2.out, Shy.trans s2.out (Shy.of_ext (U := fun k => k = g) (ext_trans (ext_drewN wA nq) x2.out)) fun _ _ h => h⟩
theorem judge_full {w : World} {g mb : Nat} {A : Option Addr} {cc : Nat} {p : Par} {now : Int} {P : List Row} (c : Int) (n : ByteArray) (t : Int) (h : LimB w g mb A cc p now P) (hkb : wfK c n) (hno : ∀ r ∈ P, ¬ r.is c n) (hl : (P.length : Int) = p.most) (hG : goesK p (max now t) P P.length = none) (ht : 0 ≤ t ∧ t ≤ 1099511627776) :
    Calls Try.prog 9 #[.pointer (some ⟨g, 0, none⟩), .int .i64 c, .string n, .int .i64 t] w fun e w' => e = .returned (.int .i64 2) ∧ LimB w' g mb A cc p (max now t) P ∧ Shy (fun k => k = g) w w' := by
  by_cases hle : now < t
  · rw [Int.max_eq_right (by omega)] at hG ⊢; exact judge_full_t c n t h hkb hno hl hG ht hle
  · rw [Int.max_eq_left (by omega)] at hG ⊢; exact judge_full_n c n t h hkb hno hl hG ht (by omega)
end Go.Proofs.Ytnoepnbgnlolbaa

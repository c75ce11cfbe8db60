/- RrlBound: what the walk needs; its early ends. -/
import Derived.Test.YtnoepnbgnlolbaaRrlZ
import Derived.Test.YtnoepnbgnlolbaaRrlY
import Derived.Test.YtnoepnbgnlolbaaRrlQ
namespace Go.Proofs.Ytnoepnbgnlolbaa
open Go.BK Go.RowKit Go.Maps
set_option linter.unusedVariables false
theorem below_next {b : Nat} {w w1 w2 : World} (B : Below b w w1) (hb : b ≤ w1.heap.size) (e : Ext w1 w2) : Below b w w2 := B.trans (e.mono hb)
theorem RActR.spot {w : World} {A : Option Addr} {n c : Nat} {C : Nat → Int} {Nm : Nat → ByteArray} {T : Nat → Int} (h : RActR w A n c C Nm T) (h0 : 0 < n) :
    ∃ b o, A = some ⟨b, o, none⟩ ∧ b < w.heap.size ∧ ∀ i, i < n → (-9223372036854775808 ≤ C i ∧ C i ≤ 9223372036854775807) ∧ (Nm i).size ≤ maxLen ∧ (-9223372036854775808 ≤ T i ∧ T i ≤ 9223372036854775807) ∧
      ∀ W', Below w.heap.size w W' → W'.cell? ⟨b, o + i * 3, none⟩ = some (.int .i64 (C i)) ∧ W'.cell? ⟨b, o + i * 3 + 1, none⟩ = some (.string (Nm i)) ∧ W'.cell? ⟨b, o + i * 3 + 2, none⟩ = some (.int .i64 (T i)) := by
  obtain ⟨b, o, rfl, h2, _⟩ := h.2.2 0 h0
  refine ⟨b, o, rfl, h2, fun i hi => ?_⟩
  obtain ⟨b', o', e, g2, g3, g4, g5, g6, g7, g8⟩ := h.2.2 i hi
  cases e
  exact ⟨g6, g7, g8, fun W' e => ⟨by rw [e.cell g2]; exact g3, by rw [e.cell g2]; exact g4, by rw [e.cell g2]; exact g5⟩⟩
theorem any_jud {U : Nat → Prop} {w : World} {g : Nat} {p : Par} {now c : Int} {n : ByteArray} {E : List Ent} (t : Int) (h : AnyL U w g p now E) (hc : -9223372036854775808 ≤ c ∧ c ≤ 9223372036854775807) (hU : ∀ j, w.heap.size ≤ j → U j) (ht : 0 ≤ t ∧ t ≤ 1099511627776) (hm : now ≤ t) {E' : List Ent} {v : Int} (hS : judS p t c n E = (E', v)) :
    Calls Try.prog 9 #[.pointer (some ⟨g, 0, none⟩), .int .i64 c, .string n, .int .i64 t] w fun e w' => e = .returned (.int .i64 v) ∧ (∃ now', now' ≤ t ∧ AnyL U w' g p now' E') ∧ Shy U w w' := by
  unfold judS at hS
  by_cases hn : n.size ≤ 255
  · rw [if_pos hn] at hS
    refine (any_step t t h ⟨hc, hn⟩ hU ht (by omega) hS).mono ?_
    rintro e w' ⟨rfl, h2, hs⟩
    exact ⟨rfl, ⟨t, Int.le_refl _, h2⟩, hs⟩
  · rw [if_neg hn] at hS
    injection hS with h1 h2
    obtain ⟨mb, A, cc, P, hl, hu, hp⟩ := h
    refine (judge_drop c n t hl (fun h => hn h.1)).mono ?_
    rintro e w' ⟨he, rfl⟩
    subst h1; subst h2
    exact ⟨he, ⟨now, hm, mb, A, cc, P, hl, hu, hp⟩, Shy.of_ext (Below.refl _ _)⟩
theorem AnyL.len_le {U : Nat → Prop} {w : World} {g : Nat} {p : Par} {now : Int} {E : List Ent} (h : AnyL U w g p now E) : (E.length : Int) ≤ p.most := h.okE.1
/-- What was said so far. -/
def cellsB (sd : Nat → Int) (n k : Nat) : List Value := (List.range n).map fun j => if j < k then .int .i64 (sd j) else .int .i64 0
theorem cellsB_zero (sd : Nat → Int) (n : Nat) : cellsB sd n 0 = List.replicate n (.int .i64 0) := by
  unfold cellsB
  rw [List.eq_replicate_iff]
  refine ⟨by simp, fun b hb => ?_⟩
  obtain ⟨j, _, rfl⟩ := List.mem_map.1 hb
  simp
theorem cellsB_set (sd : Nat → Int) (n k : Nat) (hk : k < n) : (cellsB sd n k).set k (.int .i64 (sd k)) = cellsB sd n (k + 1) := by
  unfold cellsB
  apply List.ext_getElem?
  intro j
  rw [List.getElem?_set]
  by_cases h : k = j
  · subst h
    simp [hk]
  · rw [if_neg h]
    simp only [List.getElem?_map]
    rcases hj : (List.range n)[j]? with _ | x
    · rfl
    · have : x = j := by
        rw [List.getElem?_range] at hj
        · simpa using hj.symm
        · have := (List.getElem?_eq_some_iff.1 hj).1; simpa using this
      subst this
      simp only [Option.map_some]
      by_cases h2 : x < k
      · rw [if_pos h2, if_pos (by omega)]
      · rw [if_neg h2, if_neg (by omega)]
theorem cellsB_at (sd : Nat → Int) (n k j : Nat) (hj : j < n) : (cellsB sd n k).getD j undef = .int .i64 (if j < k then sd j else 0) := by
  unfold cellsB
  simp only [List.getD_eq_getElem?_getD, List.getElem?_map, List.getElem?_range hj, Option.map_some, Option.getD_some]
  split <;> rfl
theorem cellsB_cell {sd : Nat → Int} {n k sb b c : Nat} {W : World} (h : OwnG isOne W b 3 1 (some ⟨sb, 0, none⟩) n c (cellsB sd n k)) {j : Nat} (hj : j < n) : W.cell? ⟨sb, j, none⟩ = some (.int .i64 (if j < k then sd j else 0)) := by
  obtain ⟨b, o, hA, _, hc⟩ := h.rd.at_ hj
  cases hA
  rw [cellsB_at sd n k j hj] at hc
  simpa using hc

set_option maxRecDepth 100000 in
set_option maxHeartbeats 4000000 in
theorem bound_out (most limit window slip : Int) {A : Option Addr} {n c : Nat} {C : Nat → Int} {Nm : Nat → ByteArray} {T : Nat → Int} (w : World) (hA : RActR w A n c C Nm T)
    (hn : 150 < n ∨ n ≤ 150 ∧ (limit < 0 ∨ ¬ limit < 0 ∧ (1000 < limit ∨ ¬ 1000 < limit ∧ (window < 1 ∨ ¬ window < 1 ∧ (1000 < window ∨ ¬ 1000 < window ∧ ¬ Par.ok ⟨most, limit, window, slip⟩))))) :
    Calls Try.prog 5 #[.int .i64 most, .int .i64 limit, .int .i64 window, .int .i64 slip, .slice A n c] w fun e w' => e = .returned (.bool true) ∧ Below w.heap.size w w' := by
  have hc9 : c ≤ 9223372036854775807 := by have := hA.2.1; unfold maxLen at *; omega
  have hn9 : n ≤ 9223372036854775807 := by have := hA.1; omega
  have HA := hid hA
  have HN := hid hn
  clear hA hn
  go_enter Try.func5, Try.ntmps5
  go_wp2_with fail
  refine (known_yes _).mono ?_; rintro e w1 ⟨rfl, B1⟩
  have HB1 := hid B1
  have HL := hid (long_any (HA.out.below B1))
  clear B1
  go_wp2_with fail
  refine HL.out.mono ?_; rintro e wx ⟨b, rfl, hx⟩
  subst hx
  clear HL
  cases b
  case true =>
    go_wp2_with fail
    go_ret
    exact ⟨rfl, HB1.out⟩
  rcases HN.out with hn | ⟨hn, h1 | ⟨h1, h2 | ⟨h2, h3 | ⟨h3, h4 | ⟨h4, hp⟩⟩⟩⟩⟩
  · have hd : decide ((150 : Int) < (n : Int)) = true := by rw [decide_eq_true_iff]; omega
    go_wp2_with fail
    go_ret
    exact ⟨rfl, HB1.out⟩
  all_goals have hd : decide ((150 : Int) < (n : Int)) = false := by rw [decide_eq_false_iff_not]; omega
  · have d1 : decide (limit < 0) = true := by rw [decide_eq_true_iff]; omega
    go_wp2_with fail
    go_ret
    exact ⟨rfl, HB1.out⟩
  all_goals have d1 : decide (limit < 0) = false := by rw [decide_eq_false_iff_not]; omega
  · have d2 : decide (1000 < limit) = true := by rw [decide_eq_true_iff]; omega
    go_wp2_with fail
    go_ret
    exact ⟨rfl, HB1.out⟩
  all_goals have d2 : decide (1000 < limit) = false := by rw [decide_eq_false_iff_not]; omega
  · have d3 : decide (window < 1) = true := by rw [decide_eq_true_iff]; omega
    go_wp2_with fail
    go_ret
    exact ⟨rfl, HB1.out⟩
  all_goals have d3 : decide (window < 1) = false := by rw [decide_eq_false_iff_not]; omega
  · have d4 : decide (1000 < window) = true := by rw [decide_eq_true_iff]; omega
    go_wp2_with fail
    go_ret
    exact ⟨rfl, HB1.out⟩
  have d4 : decide (1000 < window) = false := by rw [decide_eq_false_iff_not]; omega
  have HP := hid hp
  clear hp
  go_wp2_with fail
  refine (new_no most limit window slip _ HP.out).mono ?_; rintro e _ ⟨rfl, rfl⟩
  go_wp2_with fail
  go_ret
  exact ⟨rfl, HB1.out⟩
end Go.Proofs.Ytnoepnbgnlolbaa

/- The law NameBack: the facts, and the walk whole. -/
import Derived.Test.YtcgcadhnecakaaaBakB
namespace Go.Proofs.Ytcgcadhnecakaaa
open Go.BK Go.RowKit Go.BK.NM
set_option linter.unusedVariables false

theorem parse_tell_of {t : Bs} {m : Bs} {e : Int} {q : Nat} (h : parseS t = (m, (e, q))) (hl : t.length ≤ 90000) : Tell 34 #[.string (str t)] (.tuple #[.string (str m), .agg #[.int .i64 e, .int .i64 q]]) :=
  fun W => by have := parse_in t W hl; rwa [h] at this
theorem text_tell_of {L : List Bs} (h : okL L) (hl : (wire L).length ≤ 255) : Tell 33 #[.string (str (wire L))] (.tuple #[.string (str (tellT L)), .int .i64 0]) :=
  fun W => by have := text_in (wire L) W (by omega); rwa [text_of h hl] at this

theorem backN_of {n : Bs} (hn : n.length ≤ 400) (hc : checkS n = 0) : ∃ tt tc L m, BackN (str n) tt tc L m := by
  obtain ⟨L, hL, rfl, hok, hl⟩ := labels_good hc
  obtain ⟨tx, hte⟩ := tell_ends L
  have hlen := tell_len hl
  rw [hte] at hlen
  have hts : (str (tellT L)).size = tx.length + 1 := by rw [str_size, hte]; simp
  refine ⟨str (tellT L), str tx, L, tx.length, {
    cn := fun W => by have := check_in (wire L) W (by omega); rwa [hc] at this
    tx := text_tell_of hok hl
    pt := parse_tell_of (parse_tell hok hl) (by rw [hte]; omega)
    lb := fun W => by have := labels_in (wire L) W (by omega); rw [hL] at this; exact this
    jn := fun W A c hr => by
      have := join_in hr (by have := wire_len_le (L := L); omega)
      rwa [join_of hok hl] at this
    ct := fun W => by have := count_in (wire L) W (by omega); rwa [hL] at this
    pc := fun h0 => by
      obtain ⟨t, h1, h2⟩ := parse_tell' h0 hok hl
      have : t = tx := List.append_cancel_right (h1.symm.trans hte)
      subst this
      exact parse_tell_of h2 (by simp at hlen; omega)
    sz := hts
    m9 := by simp at hlen; omega
    ll := by have := wire_len_le (L := L); omega
    last := fun h => by
      have h1 : (str (tellT L)).data[tx.length]? = some ((tellT L).getD tx.length 0) := str_lt (by rw [hte]; simp)
      have h2 : (tellT L).getD tx.length 0 = 46 := by rw [hte]; simp
      rw [h2] at h1
      exact (Array.getElem?_eq_some_iff.1 h1).2
    cut := by
      rw [hte]; apply ByteArray.ext; simp [str] }⟩

theorem back_mid {tn tx : ByteArray} {b : Bs} (htx : tx = str b) (hb : b.length ≤ 1200) : (∃ tm e q, BackBad tx tm e q) ∨ (∃ tm t2, BackGood tx tm t2) := by
  subst htx
  rcases parse_cases b with ⟨h1, h2, h3⟩ | ⟨L, h1, h2, h3⟩
  · left
    refine ⟨str [], (parseS b).2.1, (parseS b).2.2, parse_tell_of (by rw [← h2]) (by omega), h1, by rw [str_size]; exact h3, by rw [str_toList]; rfl, by rw [str_toList]; rfl⟩
  · right
    have hlen := tell_len h3
    exact ⟨str (wire L), str (tellT L), parse_tell_of h1 (by omega), text_tell_of h2 h3, parse_tell_of (parse_tell h2 h3) (by omega), fun W => by have := check_in (wire L) W (by omega); rwa [check_of h2 h3] at this⟩

set_option maxHeartbeats 4000000 in
set_option maxRecDepth 100000 in
theorem back_early (tn tx : ByteArray) (w : World) (kn : tn.size ≤ 9223372036854775807) (kx : tx.size ≤ 9223372036854775807) (h : 400 < tn.size ∨ (tn.size ≤ 400 ∧ 1200 < tx.size)) :
    Calls Try.prog 7 #[.string tn, .string tx] w fun e w' => e = .returned (.bool true) ∧ Below w.heap.size w w' := by
  rcases h with h | ⟨h, h2⟩
  · have z1 : decide ((400 : Int) < (tn.size : Int)) = true := by rw [decide_eq_true_iff]; omega
    have z1' : decide (400 < tn.size) = true := by rw [decide_eq_true_iff]; omega
    clear h
    go_enter Try.func7, Try.ntmps7
    go_wp2_with fail
    (with_reducible refine (awake_in _).mono ?_)
    rintro e w2 ⟨rfl, x⟩
    have X := hid x
    clear x
    go_wp2_with fail
    go_ret
    exact ⟨rfl, X.out⟩
  · have z1 : decide ((400 : Int) < (tn.size : Int)) = false := by rw [decide_eq_false_iff_not]; omega
    have z1' : decide (400 < tn.size) = false := by rw [decide_eq_false_iff_not]; omega
    have z2 : decide ((1200 : Int) < (tx.size : Int)) = true := by rw [decide_eq_true_iff]; omega
    have z2' : decide (1200 < tx.size) = true := by rw [decide_eq_true_iff]; omega
    clear h h2
    go_enter Try.func7, Try.ntmps7
    go_wp2_with fail
    (with_reducible refine (awake_in _).mono ?_)
    rintro e w2 ⟨rfl, x⟩
    have X := hid x
    clear x
    go_wp2_with fail
    go_ret
    exact ⟨rfl, X.out⟩

theorem back_walk (a b : ByteArray) (w : World) (ha : a.size ≤ maxLen) (hb : b.size ≤ maxLen) :
    Calls Try.prog 7 #[.string a, .string b] w fun e w' => e = .returned (.bool true) ∧ Below w.heap.size w w' := by
  have a9 : a.size ≤ 9223372036854775807 := by unfold maxLen at ha; omega
  have b9 : b.size ≤ 9223372036854775807 := by unfold maxLen at hb; omega
  by_cases h1 : 400 < a.size
  · exact back_early a b w a9 b9 (.inl h1)
  by_cases h2 : 1200 < b.size
  · exact back_early a b w a9 b9 (.inr ⟨by omega, h2⟩)
  have la := len_toList a
  have lb := len_toList b
  have ea := str_of a
  have hB := back_mid (tn := a) (tx := b) (str_of b).symm (by omega)
  by_cases h3 : checkS a.data.toList = 0
  · obtain ⟨tt, tc, L, m, F⟩ := backN_of (n := a.data.toList) (by omega) h3
    rw [ea] at F
    by_cases hL : L = []
    · rcases hB with ⟨tm, e, q, G⟩ | ⟨tm, t2, G⟩
      · exact back_root_bad (by omega) (by omega) F hL G w
      · exact back_root_good (by omega) (by omega) F hL G w
    · rcases hB with ⟨tm, e, q, G⟩ | ⟨tm, t2, G⟩
      · exact back_some_bad (by omega) (by omega) F hL G w
      · exact back_some_good (by omega) (by omega) F hL G w
  · have CN : Tell 16 #[.string a] (.int .i64 (checkS a.data.toList)) := fun W => by have := check_in a.data.toList W (by omega); rwa [ea] at this
    rcases hB with ⟨tm, e, q, G⟩ | ⟨tm, t2, G⟩
    · exact back_no_bad (by omega) (by omega) CN h3 G w
    · exact back_no_good (by omega) (by omega) CN h3 G w
end Go.Proofs.Ytcgcadhnecakaaa

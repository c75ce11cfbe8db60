/- Layer 29: ScriptReads' walk. -/
import Derived.Test.YtholjbnggnfapaaScrH
import Derived.Test.YtholjbnggnfapaaRscD
import Derived.Test.YtholjbnggnfapaaKLent
namespace Go.Proofs.Ytholjbnggnfapaa
open Go.BK Go.BK.SC Go.RowKit Go.Maps
set_option linter.unusedVariables false
set_option linter.unusedSimpArgs false
set_option maxHeartbeats 2000000 in
set_option maxRecDepth 100000 in
theorem reads_walk {B : Option Addr} {cb : Nat} {l : List UInt8} (w : World) (h : Rd w B cb l) :
    Calls Try.prog 3 #[.slice B l.length cb] w fun e w' => e = .returned (.bool true) ∧ Below w.heap.size w w' := by
  have hn := h.n_le
  by_cases h1 : 20000 < l.length
  · have q1 : decide ((20000 : Int) < (l.length : Int)) = true := by simp; omega
    clear h
    go_enter Try.func3, Try.ntmps3
    go_wp2_with fail
    go_ret
    exact ⟨rfl, Below.refl _ _⟩
  · have q1 : decide ((20000 : Int) < (l.length : Int)) = false := by simp; omega
    have hle : l.length ≤ 20000 := by omega
    have H := hid h
    clear h hn h1
    go_enter Try.func3, Try.ntmps3
    go_wp2_with fail
    refine (lent_bytes H.out (by omega)).mono ?_
    rintro e w1 ⟨g, rfl, o1, x1⟩
    have O1 := hid o1
    have X1 := hid x1
    clear o1 x1
    go_wp2_with fail
    refine (events_in (lent_rd O1.out)).mono ?_
    rintro e w2 ⟨A1, c1, M1, rfl, l2, m2, x2⟩
    have L2 := hid l2
    have M2 := hid m2
    have X2 := hid x2
    clear l2 m2 x2
    go_wp2_with fail
    refine (rf_events (RdG.ext H.out (ext_trans X1.out X2.out)) (by omega)).mono ?_
    rintro e w3 ⟨A3, c3, M3, rfl, l3, m3, x3⟩
    have L3 := hid l3
    have E3 := hid m3
    have X3 := hid x3
    clear l3 m3 x3
    go_wp2_with fail
    refine (same_events (L2.out.ext X3.out).rd L3.out.rd (M2.out.trans E3.out.symm)).mono ?_
    rintro e w4 ⟨rfl, x4⟩
    have X4 := hid x4
    clear x4
    go_wp2_with fail
    refine (over_events (L2.out.ext (ext_trans X3.out X4.out))).mono ?_
    rintro e w5 ⟨rfl, s5⟩
    have S5 := hid s5
    clear s5
    have hz1 : w.heap.size ≤ w1.heap.size := X1.out.size
    have hz2 : w1.heap.size ≤ w2.heap.size := X2.out.size
    have ov : Hid (∀ k, OvU A1 M1 k → w1.heap.size ≤ k ∧ k < w2.heap.size) := hid (fun k hk => L2.out.ov_lt hk)
    have X14 : Hid (Ext w1 w4) := hid (ext_trans X2.out (ext_trans X3.out X4.out))
    have B5 : Hid (Below w.heap.size w w5) := hid (Below.trans (ext_trans X1.out X14.out) (S5.out.below (Nat.le_trans hz1 X14.out.size) (fun k hk e => by have := ov.out k e; omega)))
    have O5 : Hid (Own w5 w.heap.size 5 (some ⟨g, 0, none⟩) (l.length + 3) (lentL l)) := hid (S5.out.ownG (OwnG.ext O1.out X14.out) (fun k hk e => by have h1 := ov.out k e; have h2 := (OwnG.lt O1.out k hk).2; omega))
    have R5 : Hid (Rd w5 B cb l) := hid (by
      have := RdG.ext H.out B5.out
      exact this)
    have L5 : Hid (EvR w5 A3 c3 M3) := hid ((L3.out.ext X4.out).shy S5.out (fun k h1 h2 e => by have := ov.out k e; omega)).rd
    clear hz1 hz2
    go_wp2_with fail
    refine (kept_bytes O5.out R5.out (by omega)).mono ?_
    rintro e w6 ⟨rfl, x6⟩
    have X6 := hid x6
    clear x6
    go_wp2_with fail
    refine (events_in (RdG.ext R5.out X6.out)).mono ?_
    rintro e w7 ⟨A7, c7, M7, rfl, l7, m7, x7⟩
    have L7 := hid l7
    have E7 := hid m7
    have X7 := hid x7
    clear l7 m7 x7
    go_wp2_with fail
    refine (same_events L7.out.rd (L5.out.ext (ext_trans X6.out X7.out)) (E7.out.trans E3.out.symm)).mono ?_
    rintro e w8 ⟨rfl, x8⟩
    have X8 := hid x8
    clear x8
    go_wp2_with fail
    refine (awake_in w8).mono ?_
    rintro e w9 ⟨rfl, x9⟩
    have X9 := hid x9
    clear x9
    go_wp2_with fail
    go_ret
    exact ⟨rfl, B5.out.trans ((ext_trans X6.out (ext_trans X7.out (ext_trans X8.out X9.out))).mono B5.out.size)⟩
end Go.Proofs.Ytholjbnggnfapaa

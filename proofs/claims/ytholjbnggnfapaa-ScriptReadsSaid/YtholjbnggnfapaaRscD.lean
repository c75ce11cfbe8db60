/- Layer 29: the document's Events. -/
import Derived.Test.YtholjbnggnfapaaRscC
namespace Go.Proofs.Ytholjbnggnfapaa
open Go.BK Go.BK.SC Go.RowKit
set_option linter.unusedVariables false
set_option linter.unusedSimpArgs false
def RvRel (w0 : World) (g : Nat) (A : Option Addr) (c : Nat) (b : List UInt8) (base : Nat) (all : List Ev) (ov : Value) (wr : World) : Prop :=
  ∃ A' c' M i, ov = .slice A' M.length c' ∧ M.length ≤ 4096 ∧ EvL wr base A' c' M ∧ M.map Em.e ++ eventsS (4096 - M.length) (b.drop i) = all ∧ RfR wr g A c b i ∧ i ≤ b.length + 10000 ∧ Shy (fun k => k = g) w0 wr
section
variable {w w' : World} {c : Nat} {A : Option Addr} {b : List UInt8}
set_option maxHeartbeats 2000000 in
set_option maxRecDepth 100000 in
theorem rf_events (h : Rd w A c b) (hb : b.length ≤ 2 ^ 50) : Calls Try.prog 11 #[.slice A b.length c] w fun e w' => EvsD w w' b e := by
  obtain ⟨i0, hi, hz0, hz1, hz2⟩ := info_parts info_ev
  have H := hid h
  have xa := ext_alloc w (.cells #[.slice A b.length c, .int .i64 0] 51)
  have r0 : RfR (w.alloc (.cells #[.slice A b.length c, .int .i64 0] 51)) w.heap.size A c b 0 := ⟨Blk.new w _ _, RdG.ext h xa, fun h0 e => by
    obtain ⟨b', h1, h2⟩ := RdG.lt h h0
    rw [e] at h1
    injection h1 with h1
    omega⟩
  obtain ⟨w1, hw1⟩ : ∃ w1, w.alloc (.cells #[.slice A b.length c, .int .i64 0] 51) = w1 := ⟨_, rfl⟩
  have hsz1 : w1.heap.size = w.heap.size + 1 := by rw [← hw1]; simp
  rw [hw1] at r0 xa
  obtain ⟨g, hg⟩ : ∃ g, w.heap.size = g := ⟨_, rfl⟩
  rw [hg] at r0 hsz1
  have R0 := hid r0
  have XA := hid xa
  have HG := hid hg
  have HW1 := hid hw1
  have HAg : Hid (0 < b.length → ∀ k, blk A = some k → k < g) := hid (fun h0 k hk => by
    obtain ⟨b', h1, h2⟩ := RdG.lt h h0
    rw [hk] at h1
    injection h1 with h1
    omega)
  obtain ⟨n, hn⟩ : ∃ n, b.length = n := ⟨_, rfl⟩
  rw [hn] at hb
  have HN := hid hn
  clear h xa r0 hg hw1
  go_enter Try.func11, Try.ntmps11
  go_upto_region 2 with (fail)
  rw [HG.out]
  try rw [hn]
  have HW := HW1.out
  rw [hn] at HW
  rw [HW]
  clear HW hn
  have START : Hid (RvRel w1 g A c b (g + 1) (eventsS 4096 b) (.slice none 0 0) w1) := hid ⟨none, 0, [], 0, rfl, Nat.zero_le _, EvL.nil _ _, rfl, R0.out, by omega, Shy.refl _⟩
  go_wp2_with fail
  go_loopw [4] (fun ov wr => RvRel w1 g A c b (g + 1) (eventsS 4096 b) ov wr) (fun ov _ => 4096 - (match ov with | .slice _ n _ => n | _ => 0))
  case atStart => exact START.out
  case round =>
    obtain ⟨A', c', M, i, rfl, hM, hL, hall, hr, hi9, hs⟩ := hrel
    obtain ⟨m, hm⟩ : ∃ m, M.length = m := ⟨_, rfl⟩
    have c1 : wr.cell? ⟨g, 1, none⟩ = some (.int .i64 (i : Nat)) := hr.at_.cell 1
    rw [HN.out] at hi9
    have HL := hid hL
    have HALL := hid hall
    have HS := hid hs
    have HM := hid hm
    have HR := hid hr
    rw [hm] at hM ⊢
    have hsz := hs.size
    clear hL hall hs hr hm
    by_cases hin : i < n
    · have i1 : (i : Int) < (n : Int) := by omega
      by_cases hfull : m = 4096
      · subst hfull
        have i2 : ¬ ((4096 : Nat) : Int) < 4096 := by omega
        go_wp2_with fail
        go_ret
        refine ⟨A', c', M, (by simp [HM.out]), HL.out.mono (by have := HG.out; omega), ?_, ?_⟩
        · rw [← HALL.out, HM.out]
          simp [eventsS]
        · exact Below.trans XA.out (HS.out.below XA.out.size (fun k hk e => by have := HG.out; omega))
      · have i2 : ((m : Nat) : Int) < 4096 := by omega
        have hlne : b.drop i ≠ [] := by
          intro e
          have := List.drop_eq_nil_iff.1 e
          have := HN.out
          omega
        have rl : RLr wr g A c b (b.drop i) i := ⟨i, Nat.le_refl _, HR.out, rfl⟩
        have CE := hid (rf_event rl (by omega))
        have OL := HL.out.1
        rw [HM.out] at OL
        have HNE := hid hlne
        have hm6 : m ≤ 4095 := by omega
        clear hlne rl hfull hM
        go_wp2_with fail
        refine CE.out.mono ?_
        rintro e w4 ⟨B, d, rfl, o4, r4, s4⟩
        obtain ⟨ev, hev⟩ : ∃ ev, (evS (b.drop i)).1 = ev := ⟨_, rfl⟩
        rw [hev] at o4 ⊢
        have HEV := hid hev
        clear hev
        have hz4 := s4.size
        have xa := ext_alloc w4 (.cells (cellsE ev B d) 34)
        obtain ⟨wa, hwa⟩ : ∃ wa, w4.alloc (.cells (cellsE ev B d) 34) = wa := ⟨_, rfl⟩
        have ba := Blk.new w4 34 (cellsE ev B d)
        rw [hwa] at xa ba
        have k0 : wa.cell? ⟨w4.heap.size, 0, none⟩ = some (.int .i64 ev.kind) := ba.cell 0
        have k1 : wa.cell? ⟨w4.heap.size, 1, none⟩ = some (.int .i64 ev.sort) := ba.cell 1
        have k2 : wa.cell? ⟨w4.heap.size, 2, none⟩ = some (.int .i64 ev.who) := ba.cell 2
        have k3 : wa.cell? ⟨w4.heap.size, 3, none⟩ = some (.int .i64 ev.port) := ba.cell 3
        have k4 : wa.cell? ⟨w4.heap.size, 4, none⟩ = some (.int .i64 ev.conn) := ba.cell 4
        have k5 : wa.cell? ⟨w4.heap.size, 5, none⟩ = some (.int .i64 ev.n) := ba.cell 5
        have k6 : wa.cell? ⟨w4.heap.size, 6, none⟩ = some (.slice B ev.b.length d) := ba.cell 6
        have hwza : wa.heap.size = w4.heap.size + 1 := by rw [← hwa]; simp
        have HWA := hid hwa
        have XA4 := hid xa
        have O4 := hid o4
        have R4 := hid r4
        have S4 := hid s4
        unfold cellsE at hwa ⊢
        clear o4 r4 s4 xa ba
        have HWA2 := hid hwa
        clear hwa
        go_upto_region 5 with (fail)
        rw [HWA2.out]
        have xb := ext_alloc wa (.cells (cellsE ev B d) 34)
        have src := rd_seven wa ev B d 34
        have dst := hid (((S4.out.ownG OL (fun k hk e => by have := (OL.lt k hk).1; omega)).ext XA4.out).ext xb)
        obtain ⟨wb, hwb⟩ : ∃ wb, wa.alloc (.cells (cellsE ev B d) 34) = wb := ⟨_, rfl⟩
        rw [hwb] at xb src dst
        have XB := hid xb
        rw [hwza] at src
        have src := hid src
        have hzb : g + 1 ≤ wb.heap.size := by have := xb.size; omega
        unfold cellsE at hwb
        clear xb OL
        go_wp2_with (at_builtin; go_must (refine wpList_append_g (ok := isOne) rfl (.tmp 23) (.tmp 25) 24 rfl (g + 1) 34 i0 (.agg #[.int .i64 0, .int .i64 0, .int .i64 0, .int .i64 0, .int .i64 0, .int .i64 0, .slice none 0 0]) 7 72 Try.underlying24 hi hz0 hz1 hz2 rfl (by decide) zero_seven (fun _ h => h) rfl dst.out rfl src.out (ev_one ev B d) (by omega) (by unfold maxLen; omega) hzb ?_; intro A6 c6 w6 o6 g6 n6; have O6 := hid o6; have G6 := hid g6; have N6 := hid n6; clear o6 g6 n6))
        go_roundw
        case rel =>
          obtain ⟨i2, hi2, hr2, he2⟩ := R4.out
          have hA' : ∀ k, blk A' = some k → g + 1 ≤ k := fun k hk => (HL.out.1.lt k hk).1
          have hadd := EvL.add (e := ev) (d := d) (B := B) (c6 := c6) HL.out S4.out (fun k h1 h2 e => by omega) (by omega) (by rw [← HEV.out]; rw [HEV.out]; exact O4.out) (ext_trans XA4.out XB.out) G6.out N6.out (by rw [HM.out]; exact O6.out)
          refine ⟨A6, c6, M ++ [⟨ev, B, d⟩], i2, (by simp [HM.out]), (by simp [HM.out]; omega), hadd, ?_, ?_, ?_, ?_⟩
          · rw [← HALL.out, HM.out]
            have e1 : 4096 - m = (4095 - m) + 1 := by omega
            rw [e1, events_cons _ _ HNE.out, HEV.out, he2]
            simp [HM.out, show 4096 - (m + 1) = 4095 - m from by omega]
          · exact ((hr2.ext XA4.out).ext XB.out).shy (shy_of_grown G6.out) (fun e => by have := hA' _ e; omega) (fun h0 k hk e => by have h1 := hA' k e; have h2 := HAg.out h0 k hk; omega)
          · rw [HN.out]; omega
          · exact Shy.grown ((HS.out.trans S4.out (fun k _ e => e)).ext (ext_trans XA4.out XB.out)) G6.out (fun k hk hlt => by have := hA' k hk; omega)
        case measure => simp; omega
    · have i1 : ¬ (i : Int) < (n : Int) := by omega
      have hdn : b.drop i = [] := List.drop_eq_nil_iff.2 (by have := HN.out; omega)
      have HDN := hid hdn
      clear hdn
      go_wp2_with fail
      go_ret
      refine ⟨A', c', M, (by simp [HM.out]), HL.out.mono (by have := HG.out; omega), ?_, ?_⟩
      · rw [← HALL.out, HDN.out, events_nil, List.append_nil]
      · exact Below.trans XA.out (HS.out.below XA.out.size (fun k hk e => by have := HG.out; omega))
end
end Go.Proofs.Ytholjbnggnfapaa

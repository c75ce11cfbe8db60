/- OrderScript: the walk. -/
import Derived.Test.YteehicennefcbaaOrdV
import Derived.Test.YteehicennefcbaaKCopy
import Derived.Test.YteehicennefcbaaKOver
import Derived.BigQuiet
namespace Go.Proofs.Yteehicennefcbaa
open Go.BK Go.RowKit
set_option linter.unusedVariables false

theorem pass_done {G : Prop} {P : Option Addr → Nat → World → Prop} (H : Option Addr → Nat → World → Prop) (key : ∀ a b c, H a b c → P a b c) (main : (∀ a b c, H a b c → P a b c) → G) : G := main key

set_option maxRecDepth 100000 in
set_option maxHeartbeats 4000000 in
theorem order_in (mo : Nat) {A : Option Addr} {n c : Nat} {K : Nat → Bool} {N : Nat → Int} {S : Nat → Sl} (w : World) (h1 : 1 ≤ mo) (h2 : mo ≤ 64) (hA : BActR w A n c K N S) :
    Calls Try.prog 4 #[.int .i64 mo, .slice A n c] w fun e w' => e = .returned (.bool true) ∧ Below w.heap.size w w' := by
  have HA := hid (fun k (hk : k < n) => hA.cells hk)
  have HLO := hid (long_any hA)
  have hc9 : c ≤ 9223372036854775807 := by have := hA.2.1; unfold maxLen at *; omega
  clear hA
  go_enter Try.func4, Try.ntmps4
  go_wp2_with fail
  refine HLO.out.mono ?_; rintro e w1 ⟨b, rfl, rfl, hb⟩
  clear HLO
  cases b
  case true =>
    clear hb
    go_wp2_with fail
    refine (awake_yes _).mono ?_; rintro e w5 ⟨rfl, B5⟩
    go_wp2_with fail
    go_ret
    exact ⟨rfl, B5⟩
  obtain ⟨hn, hS⟩ := hb rfl
  have HS := hid hS
  clear hb hS
  go_wp2_with fail
  refine (win_new mo w h1 h2).mono ?_; rintro e w2 ⟨g, rfl, W2, x2⟩
  have H2 := hid W2
  have X2 := hid x2
  clear W2 x2
  go_wp2_with fail
  refine (doc_new mo w2 h1 h2).mono ?_; rintro e w3 ⟨v, rfl, D3, x3⟩
  have B3 := hid (below_ext X2.out X2.out.size x3)
  have D3' : Duo w.heap.size No No w3 g v mo 1 [] 1 [] := by
    have hs := X2.out.size
    exact ⟨_, _, H2.out.ext x3, D3, fun k hk => ⟨hk.1, fun hv => by have := hk.2; have := hv.1; omega, id⟩, fun k hk => ⟨Nat.le_trans hs hk.1, id, id⟩⟩
  have H3 := hid D3'
  clear D3 D3' x3 H2 X2
  go_wp2_with fail
  go_loopw [9] (fun iv wr => ∃ (k f : Nat) (L : List (Option Bs)), k ≤ n ∧ iv = .int .i64 k ∧ Hid (f + L.length ≤ 1 + k) ∧ Hid (Duo w.heap.size No No wr g v mo f L f L) ∧ Hid (Below w.heap.size w wr)) (fun iv _ => n - (intOf iv).toNat)
  case atStart => exact ⟨0, 1, [], Nat.zero_le _, rfl, hid (by simp), H3, B3⟩
  case round =>
    clear H3 B3
    obtain ⟨k, f, L, hk, rfl, hsum, DD, BB⟩ := hrel
    have hws := hid BB.out.size
    by_cases hlt : k < n
    · obtain ⟨bl, o, rfl, hbl, hbn, hcells⟩ := HA.out k hlt
      obtain ⟨s1, s2, s3, s4⟩ := hcells _ BB.out
      have HC := hid hcells
      have hl100 := HS.out k hlt
      generalize K k = xk at *
      generalize N k = xn at *
      generalize hSk : S k = xs at *
      obtain ⟨xa, xc, xl⟩ := xs
      clear hcells hSk
      simp only at s3 s4 hl100
      cases xk with
      | true =>
        have hp := hid (fun W (D : Duo w.heap.size No No W g v mo f L f L) (h0 : w.heap.size ≤ W.heap.size) => duo_open D (by have := hsum.out; omega) h0)
        have hq := hid (fun W (D : Duo w.heap.size No No W g v mo f (openL mo L) f L) (h0 : w.heap.size ≤ W.heap.size) => duo_ropen D (by have := hsum.out; omega) h0 (fun k hk => by rcases hk with hk | hk <;> exact hk.elim))
        have hsum2 := hid (show f + (openL mo L).length ≤ 1 + (k + 1) by have := open_len mo L; have := hsum.out; omega)
        generalize openL mo L = L' at *
        generalize openS mo f L = r at *
        obtain ⟨p1, p2⟩ := r
        simp only at hp hq
        have y1 : (p1 == p1) = true := by simp
        have y2 : (p2 == p2) = true := by simp
        clear s3 s4 s2
        go_wp2_with fail
        refine (hp.out _ DD.out BB.out.size).mono ?_; rintro e w5 ⟨rfl, D5, b5⟩
        have DD5 := hid D5
        have BB5 := hid (BB.out.trans b5)
        clear D5 b5 s1
        go_wp2_with fail
        refine (hq.out _ DD5.out BB5.out.size).mono ?_; rintro e w6 ⟨rfl, D6, b6⟩
        have DD6 := hid D6
        have BB6 := hid (BB5.out.trans b6)
        clear D6 b6 DD5 hp hq
        have hb1 : ((f : Nat) : Int) + ((L' : List (Option Bs)).length : Nat) ≤ 1000000 := by have := hsum2.out; omega
        have cl := hid (fun n => duo_len DD6.out hb1 n)
        obtain ⟨fv, hfv⟩ : ∃ fv : Int, fv = (if (L').length = 0 then (0 : Int) else (f : Nat)) := ⟨_, rfl⟩
        have cf := hid (fun n => duo_first DD6.out hb1 hfv.symm n)
        have crf := hid (fun n => duo_rfirst DD6.out hfv.symm n)
        have cr := hid (fun n => duo_ready DD6.out n)
        have crr := hid (fun n => duo_rready DD6.out hb1 n)
        obtain ⟨Ar, cc, q2⟩ := duo_cell DD6.out
        obtain ⟨rn, hrn⟩ : ∃ rn : Nat, rn = (L').countP Option.isSome := ⟨_, rfl⟩
        rw [← hrn] at cr crr
        have HSUM := hid hsum2.out
        obtain ⟨ln, hln⟩ : ∃ ln : Nat, ln = (L').length := ⟨_, rfl⟩
        rw [← hln] at cl q2
        have z1 : ((ln : Int) == (ln : Int)) = true := by simp
        have z2 : (fv == fv) = true := by simp
        have z3 : ((rn : Int) == (rn : Int)) = true := by simp
        clear hfv hrn hln hb1
        go_wp2_with fail
        go_quiet ((first | (go_at_call 15; exact Calls.quiet_of (cl.out _)) | (go_at_call 13; exact Calls.quiet_of (cf.out _)) | (go_at_call 23; exact quiet_sym (crf.out _)) | (go_at_call 24; exact quiet_sym (cr.out _)) | (go_at_call 25; exact quiet_sym (crr.out _))))
        go_wp2_with fail
        go_roundw
        case rel => exact ⟨k + 1, f, L', by omega, by go_num, hid (by have := HSUM.out; omega), hid (DD6.out.ext (ext_drewN _ _)), hid (below_ext BB6.out BB6.out.size (ext_drewN _ _))⟩
        case measure => simp [intOf]; omega
      | false =>
        have hd8 : xl.length ≤ 140737488355328 := by omega
        have hp := hid (fun W N0 A0 c0 (D : Duo w.heap.size N0 No W g v mo f L f L) (h0 : w.heap.size ≤ W.heap.size) (hN : ∀ k, N0 k → k < W.heap.size) (r : Rd W A0 c0 xl) => duo_done xn D (by have := hsum.out; omega) h0 hN r hd8)
        have hq := hid (fun W N0 M0 (D : Duo w.heap.size N0 M0 W g v mo (f + (doneOut f L xn xl).length) (doneL f L xn xl) f L) (h0 : w.heap.size ≤ W.heap.size) (hN : ∀ k, N0 k → k < W.heap.size) (r : Rd W xa xc xl) => duo_rdone xn D (by have := hsum.out; omega) hbn.2 h0 hN r hd8)
        have hsum2 := hid (show (f + (doneOut f L xn xl).length) + (doneL f L xn xl).length ≤ 1 + (k + 1) by have := done_len f L xn xl; have := hsum.out; omega)
        obtain ⟨er, her⟩ : ∃ er, er = doneErr f L xn := ⟨_, rfl⟩
        obtain ⟨L', hL'⟩ : ∃ r, r = doneL f L xn xl := ⟨_, rfl⟩
        obtain ⟨O, hO⟩ : ∃ r, r = doneOut f L xn xl := ⟨_, rfl⟩
        rw [← her, ← hL', ← hO] at hq
        rw [← her, ← hL', ← hO] at hp
        rw [← hL', ← hO] at hsum2
        clear her hL' hO
        have y1 : (er == er) = true := by simp
        have y2 : (O == O) = true := by simp
        have hcp := hid (copy_bytes s4 hd8)
        clear s2 s4
        go_wp2_with fail
        refine hcp.out.mono ?_; rintro e w5 ⟨A5, c5, rfl, o5, x5⟩
        have DD5 := hid ((DD.out.fresh x5).less (N' := fun k => blk A5 = some k) (M' := No) (fun k hk => (o5.lt k hk).1) (fun _ h => h.elim))
        have BB5 := hid (below_ext BB.out BB.out.size x5)
        have O5 := hid o5
        have HA5 := hid (fun k (hk : blk A5 = some k) => (o5.lt k hk).1)
        obtain ⟨s1, s2, s3, s4⟩ := HC.out _ BB5.out
        clear o5 x5 s4 s3 s1 hcp
        go_wp2_with fail
        refine (hp.out _ _ _ _ DD5.out BB5.out.size (fun k hk => (O5.out.lt k hk).2) O5.out.rd).mono ?_; rintro e w6 ⟨A6, c6, Q, rfl, r6, D6, b6, sh6, hq6⟩
        have O6 : Hid (Own w6 wr.heap.size 5 A5 c5 xl) := hid (sh6.ownG O5.out (fun k hk hn => hn hk))
        have DD6 := hid D6
        have BB6 := hid (BB5.out.trans b6)
        have R6 := hid r6
        clear D6 b6 r6 sh6 hq6 s2 hp
        go_wp2_with fail
        have BB7 := hid (below_ext BB6.out BB6.out.size (ext_drew w6))
        have R7 := hid (R6.out.ext (ext_drew w6))
        have O7 := hid (O6.out.ext (ext_drew w6))
        obtain ⟨t1, t2, t3, t4⟩ := HC.out _ BB7.out
        have hS : (w6.drew).cell? ⟨bl, o + k * 3 + 1, none⟩ = some (.int .i64 xn) ∧ (w6.drew).cell? ⟨bl, o + k * 3 + 2, none⟩ = some (.slice xa xl.length xc) := ⟨t2, t3⟩
        have CR := hid (hq.out _ _ _ (DD6.out.ext (ext_drew w6)) BB7.out.size (fun k hk => (O7.out.lt k hk).2) t4)
        clear t1 t2 t3 t4 hq
        apply pass_done (fun A8 c8 w8 => RdL w8 A8 O.length c8 O ∧ Duo w.heap.size (fun k => blk A5 = some k) No w8 g v mo (f + O.length) L' (f + O.length) L' ∧ Below w.heap.size (w6.drew) w8 ∧ Shy (fun k => ¬ blk A5 = some k ∧ ¬ Q k) (w6.drew) w8)
        case main =>
          intro key
          go_region_held3 (fun w' => w'.cell? ⟨bl, o + k * 3 + 1, none⟩ = some (.int .i64 xn) ∧ w'.cell? ⟨bl, o + k * 3 + 2, none⟩ = some (.slice xa xl.length xc)) (go_keep) (first | (go_at_call 20; (refine CR.out.mono ?_; rintro e w8 ⟨A8, c8, rfl, r8, D8, b8, sh8⟩; have k8 : w8.cell? ⟨bl, o + k * 3 + 1, none⟩ = some (.int .i64 xn) ∧ w8.cell? ⟨bl, o + k * 3 + 2, none⟩ = some (.slice xa xl.length xc) := ⟨(HC.out _ (BB7.out.trans b8)).2.1, (HC.out _ (BB7.out.trans b8)).2.2.1⟩)))
          all_goals exact key _ _ _ ⟨r8, D8, b8, sh8⟩
        case key =>
          rintro A8 c8 w8 ⟨r8, D8, b8, sh8⟩
          clear hS CR
          have R8 := hid (R7.out.shy sh8 (fun k hk hn => hn.2 hk))
          have O8 := hid (sh8.ownG O7.out (fun k hk hn => hn.1 hk))
          have BB8 := hid (BB7.out.trans b8)
          have HSL := hid (same_lists R8.out r8)
          have DD8 := hid D8
          clear r8 D8 b8 sh8 R6 R7
          go_wp2_with fail
          refine HSL.out.mono ?_; rintro e w9 ⟨rfl, d, rfl⟩
          have BB9 := hid (below_ext BB8.out BB8.out.size (ext_drewN w8 d))
          have DD9 := hid (DD8.out.ext (ext_drewN w8 d))
          have O9 := hid (O8.out.ext (ext_drewN w8 d))
          obtain ⟨t1, t2, t3, t4⟩ := HC.out _ BB9.out
          have HY := hid (same_yes O9.out.rd t4 rfl)
          clear HSL t1 t2 t4 DD8 O8 BB8
          go_wp2_with fail
          refine HY.out.mono ?_; rintro e w10 ⟨rfl, hw⟩
          subst hw
          clear HY t3
          go_wp2_with fail
          refine (over_bytes O9.out).mono ?_; rintro e w11 ⟨rfl, g11, l', hl', o11⟩
          have DDz := hid ((DD9.out.over (shy_of_grown g11)).less (N' := No) (M' := No) (fun _ h => h.elim) (fun _ h => h.elim))
          have BBz := hid (BB9.out.trans ((shy_of_grown g11).below BB9.out.size (fun k hk hu => by have := HA5.out k hu; have := hws.out; omega)))
          clear g11 o11 hl'

          have hb1 : (((f + O.length) : Nat) : Int) + ((L' : List (Option Bs)).length : Nat) ≤ 1000000 := by have := hsum2.out; omega
          have cl := hid (fun n => duo_len DDz.out hb1 n)
          obtain ⟨fv, hfv⟩ : ∃ fv : Int, fv = (if (L').length = 0 then (0 : Int) else ((f + O.length) : Nat)) := ⟨_, rfl⟩
          have cf := hid (fun n => duo_first DDz.out hb1 hfv.symm n)
          have crf := hid (fun n => duo_rfirst DDz.out hfv.symm n)
          have cr := hid (fun n => duo_ready DDz.out n)
          have crr := hid (fun n => duo_rready DDz.out hb1 n)
          obtain ⟨Ar, cc, q2⟩ := duo_cell DDz.out
          obtain ⟨rn, hrn⟩ : ∃ rn : Nat, rn = (L').countP Option.isSome := ⟨_, rfl⟩
          rw [← hrn] at cr crr
          have HSUM := hid hsum2.out
          obtain ⟨ln, hln⟩ : ∃ ln : Nat, ln = (L').length := ⟨_, rfl⟩
          rw [← hln] at cl q2
          have z1 : ((ln : Int) == (ln : Int)) = true := by simp
          have z2 : (fv == fv) = true := by simp
          have z3 : ((rn : Int) == (rn : Int)) = true := by simp
          clear hfv hrn hln hb1
          go_wp2_with fail
          go_quiet ((first | (go_at_call 15; exact Calls.quiet_of (cl.out _)) | (go_at_call 13; exact Calls.quiet_of (cf.out _)) | (go_at_call 23; exact quiet_sym (crf.out _)) | (go_at_call 24; exact quiet_sym (cr.out _)) | (go_at_call 25; exact quiet_sym (crr.out _))))
          go_wp2_with fail
          go_roundw
          case rel => exact ⟨k + 1, (f + O.length), L', by omega, by go_num, hid (by have := HSUM.out; omega), hid (DDz.out.ext (ext_drewN _ _)), hid (below_ext BBz.out BBz.out.size (ext_drewN _ _))⟩
          case measure => simp [intOf]; omega
    · obtain rfl : k = n := by omega
      clear hlt hk
      go_wp2_with fail
      refine (awake_yes _).mono ?_; rintro e w5 ⟨rfl, B5⟩
      have BZ := below_ext BB.out BB.out.size B5
      go_wp2_with fail
      go_ret
      exact ⟨rfl, BZ⟩

set_option maxRecDepth 100000 in
set_option maxHeartbeats 2000000 in
theorem order_walk (most : Int) {A : Option Addr} {n c : Nat} {K : Nat → Bool} {N : Nat → Int} {S : Nat → Sl} (w : World) (hm : -9223372036854775808 ≤ most ∧ most ≤ 9223372036854775807) (hA : BActR w A n c K N S) :
    Calls Try.prog 4 #[.int .i64 most, .slice A n c] w fun e w' => e = .returned (.bool true) ∧ Below w.heap.size w w' := by
  by_cases hne : most < 1 ∨ 64 < most
  · have HLO := hid (long_any hA)
    have cN := hid (fun W => new_no most W hne)
    have cR := hid (fun W => ref_new_no most W hne)
    clear hne hA
    go_enter Try.func4, Try.ntmps4
    go_wp2_with fail
    refine HLO.out.mono ?_; rintro e w1 ⟨b, rfl, rfl, hb⟩
    clear HLO
    cases b
    case true =>
      clear hb
      go_wp2_with fail
      refine (awake_yes _).mono ?_; rintro e w5 ⟨rfl, B5⟩
      go_wp2_with fail
      go_ret
      exact ⟨rfl, B5⟩
    clear hb
    go_wp2_with fail
    refine (cN.out _).mono ?_; rintro e wx ⟨rfl, hx⟩
    subst hx
    go_wp2_with fail
    refine (cR.out _).mono ?_; rintro e wx ⟨rfl, hx⟩
    subst hx
    go_wp2_with fail
    refine (awake_yes _).mono ?_; rintro e w5 ⟨rfl, B5⟩
    go_wp2_with fail
    go_ret
    exact ⟨rfl, B5⟩
  · obtain ⟨mo, rfl⟩ : ∃ mo : Nat, most = mo := ⟨most.toNat, by omega⟩
    exact order_in mo w (by omega) (by omega) hA
end Go.Proofs.Yteehicennefcbaa

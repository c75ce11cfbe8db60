/- WireEnds: at each place of any bytes there is a name that may be, or a fault within them; and bytes ahead do not matter to a name in the clear. -/
import Derived.Test.YtfimfmghfjokjaaWirW
import Derived.Test.YtfimfmghfjokjaaWirP
import Derived.Test.YtfimfmghfjokjaaLabC
import Derived.Test.YtfimfmghfjokjaaKPick
namespace Go.Proofs.Ytfimfmghfjokjaa
open Go.BK Go.RowKit Go.BK.NM
set_option linter.unusedVariables false

theorem check_wire {N : List Bs} (h : okL N) (hl : (wire N).length ≤ 255) : checkS (wire N) = 0 := by
  unfold checkS
  rw [labels_ok (labS_wire h) hl]

set_option maxHeartbeats 4000000 in
set_option maxRecDepth 100000 in
theorem ends_fault {B : Option Addr} {cb : Nat} {l : List UInt8} (at_ : Int) (a : Nat) (f x : Int) (w : World) (h : Rd w B cb l) (h1 : l.length ≤ 2000) (ha : pick at_ ((l.length : Int) + 1) = a) (hR : readS l a = ([], 0, f, x)) (hf : f ≠ 0) (hx : 0 ≤ x ∧ x ≤ l.length) (hat : -9223372036854775808 ≤ at_ ∧ at_ ≤ 9223372036854775807) (hal : a ≤ l.length) :
    Calls Try.prog 4 #[.slice B l.length cb, .int .i64 at_] w fun e w' => e = .returned (.bool true) ∧ Below w.heap.size w w' := by
  have q1 : decide ((2000 : Int) < (l.length : Int)) = false := by simp; omega
  have z1 : (f != 0) = true := by simpa using hf
  have z2 : decide (0 ≤ x) = true := by simpa using hx.1
  have z3 : decide (x ≤ (l.length : Int)) = true := by simpa using hx.2
  have CP := hid (fun W => pick_any at_ ((l.length : Int) + 1) W hat (by omega))
  rw [ha] at CP
  have CR := hid (fun W (hW : Rd W B cb l) => read_any (a : Int) hW (by omega) (by omega) hR)
  have hs : str [] = ⟨#[]⟩ := rfl
  rw [hs] at CR
  have H := hid h
  clear h hR ha hf hx hs
  go_enter Try.func4, Try.ntmps4
  go_wp2_with fail
  refine (awake_yes _).mono ?_
  rintro e w1 ⟨rfl, x1⟩
  have X1 := hid x1
  clear x1
  go_wp2_with fail
  refine (CP.out _).mono ?_
  rintro e _ ⟨rfl, rfl⟩
  go_wp2_with fail
  refine (CR.out _ (H.out.ext X1.out)).mono ?_
  rintro e w2 ⟨rfl, x2⟩
  have X2 := hid (ext_trans X1.out x2)
  clear x2
  obtain ⟨k0, k1, kf⟩ := (Blk.new w2 26 #[.int .i64 f, .int .i64 x]).two
  go_wp2_with fail
  go_ret
  exact ⟨rfl, ext_trans X2.out (ext_alloc _ _)⟩

set_option maxHeartbeats 4000000 in
set_option maxRecDepth 100000 in
theorem ends_big {B : Option Addr} {cb : Nat} {l : List UInt8} (at_ : Int) (w : World) (h : Rd w B cb l) (h1 : 2000 < l.length) :
    Calls Try.prog 4 #[.slice B l.length cb, .int .i64 at_] w fun e w' => e = .returned (.bool true) ∧ Below w.heap.size w w' := by
  have hn := h.n_le
  have q1 : decide ((2000 : Int) < (l.length : Int)) = true := by simp; omega
  clear h
  go_enter Try.func4, Try.ntmps4
  go_wp2_with fail
  refine (awake_yes _).mono ?_
  rintro e w1 ⟨rfl, x1⟩
  go_wp2_with fail
  go_ret
  exact ⟨rfl, x1⟩

set_option maxHeartbeats 4000000 in
set_option maxRecDepth 100000 in
theorem ends_name {B : Option Addr} {cb : Nat} {l : List UInt8} (at_ : Int) (a nx : Nat) (N : List Bs) (w : World) (h : Rd w B cb l) (h1 : l.length ≤ 2000) (ha : pick at_ ((l.length : Int) + 1) = a) (hR : readS l a = (wire N, (nx : Int), 0, 0)) (hN : okL N) (hl : (wire N).length ≤ 255)
    (hx1 : a < nx) (hx2 : nx ≤ l.length) (hx3 : nx ≤ a + 256) (hcl : nx = a + (wire N).length → ∃ t, l.drop a = wire N ++ t) (hat : -9223372036854775808 ≤ at_ ∧ at_ ≤ 9223372036854775807) :
    Calls Try.prog 4 #[.slice B l.length cb, .int .i64 at_] w fun e w' => e = .returned (.bool true) ∧ Below w.heap.size w w' := by
  have q1 : decide ((2000 : Int) < (l.length : Int)) = false := by simp; omega
  have CP := hid (fun W => pick_any at_ ((l.length : Int) + 1) W hat (by omega))
  rw [ha] at CP
  have CR := hid (fun W (hW : Rd W B cb l) => read_any (a : Int) hW (by omega) (by omega) hR)
  simp only at CR
  have hwl : (wire N).length ≤ 100000 := by omega
  have CC := hid (fun W => check_in (wire N) W hwl)
  rw [check_wire hN hl] at CC
  obtain ⟨b, o, hB, hb, hcell⟩ := h.at_ (k := nx - 1) (by omega)
  have hcap := h.le
  have hcc := h.c_le
  have H := hid h
  have HA := hid (And.intro hN (And.intro hl hcl))
  subst hB
  clear h hR ha hN hl hcl
  obtain ⟨c, hc⟩ : ∃ c, c = l.getD (nx - 1) 0 := ⟨_, rfl⟩
  rw [← hc] at hcell
  clear hc
  obtain ⟨j, hj⟩ : ∃ j, j = nx - 1 := ⟨_, rfl⟩
  have hj1 : (nx : Int) - 1 = (j : Int) := by omega
  have hj2 : j < l.length := by omega
  rw [← hj] at hcell
  obtain ⟨wl, hwe⟩ : ∃ n : Nat, n = (wire N).length := ⟨_, rfl⟩
  have hss : (str (wire N)).size = wl := by rw [str_size, hwe]
  have HW := hid hwe
  have HJ := hid hj1
  clear hwe hj hj1
  obtain ⟨s, hs⟩ : ∃ s, s = str (wire N) := ⟨_, rfl⟩
  rw [← hs] at CR CC hss
  have HS := hid hs
  have HSS := hid hss
  clear hs hss
  have i1 : (a : Int) < (nx : Int) := by omega
  have i2 : (nx : Int) ≤ (l.length : Int) := by omega
  have z1 : decide (nx ≤ a) = false := by simp; omega
  have z2 : decide (l.length < nx) = false := by simp; omega
  have z3 : decide ((256 : Int) < (nx : Int) - (a : Int)) = false := by simp; omega
  go_enter Try.func4, Try.ntmps4
  go_wp2_with fail
  refine (awake_yes _).mono ?_
  rintro e w1 ⟨rfl, x1⟩
  have X1 := hid x1
  clear x1
  go_wp2_with fail
  refine (CP.out _).mono ?_
  rintro e _ ⟨rfl, rfl⟩
  go_wp2_with fail
  refine (CR.out _ (H.out.ext X1.out)).mono ?_
  rintro e w2 ⟨rfl, x2⟩
  have X2 := hid (ext_trans X1.out x2)
  clear x2
  obtain ⟨k0, k1, kf⟩ := (Blk.new w2 26 #[.int .i64 0, .int .i64 0]).two
  go_wp2_with fail
  refine (CC.out _).mono ?_
  rintro e w3 ⟨rfl, x3⟩
  have X3 := hid (ext_trans (ext_trans X2.out (ext_alloc _ _)) x3)
  have hc3 : w3.cell? ⟨b, o + j, none⟩ = some (u8v c) := (X3.out.cell (p := ⟨b, o + j, none⟩) hb).trans hcell
  clear x3 k0 k1 kf
  have w1' : ((nx : Int) - 1) = (j : Int) := HJ.out
  by_cases hc0 : c.toNat = 0
  case neg =>
    have z5 : ((c.toNat : Int) != 0) = true := by rw [bne_iff_ne]; omega
    clear hc0
    go_wp2_with fail
    go_ret
    exact ⟨rfl, X3.out⟩
  have z5 : ((c.toNat : Int) != 0) = false := by rw [hc0]; rfl
  have hss : s.size = wl := HSS.out
  by_cases hne : nx = a + wl
  case neg =>
    have z6 : ((nx : Int) - (a : Int) != (s.size : Int)) = true := by rw [bne_iff_ne]; omega
    clear hne hss
    go_wp2_with fail
    go_ret
    exact ⟨rfl, X3.out⟩
  have z6 : ((nx : Int) - (a : Int) != (s.size : Int)) = false := by rw [hss]; simp; omega
  obtain ⟨hN, hl, hcl⟩ := HA.out
  obtain ⟨t, ht⟩ := hcl (by rw [HW.out] at hne; exact hne)
  have hst : Stands (l.drop a) 0 N (0 + (wire N).length) := .clear (t := t) (by simpa using ht)
  have hR2 := stands_read hst hN hl
  rw [Nat.zero_add, ← HW.out] at hR2
  have hcut : Rd w3 (some ⟨b, o + a, none⟩) (cb - a) (l.drop a) := by
    have := (H.out.ext X3.out).cut (i := a) (j := l.length) (by omega) (Nat.le_refl _) (A' := some ⟨b, o + a, none⟩) (fun _ => by simp [Addr.add_lit])
    rwa [List.take_length] at this
  have C2 := read_any 0 hcut (by simp; omega) (by omega) hR2
  have hlen : (l.drop a).length = l.length - a := by simp
  rw [hlen] at C2
  simp only at C2
  rw [← HS.out] at C2
  have HC2 := hid C2
  have e1 : ((cb : Int) = (a : Int)) = False := by simp; omega
  have e2 : (cb = a) = False := by simp; omega
  have HE := hid hne
  have z7 : ((wl : Int) == (nx : Int) - (a : Int)) = true := by rw [beq_iff_eq]; omega
  clear hst hR2 hcut C2 hlen hN hl hcl ht hne hc0 hss
  go_wp2_with fail
  refine HC2.out.mono ?_
  rintro e w4 ⟨rfl, x4⟩
  have X4 := hid (ext_trans X3.out x4)
  clear x4
  obtain ⟨k0, k1, kf⟩ := (Blk.new w4 26 #[.int .i64 0, .int .i64 0]).two
  go_wp2_with fail
  go_ret
  exact ⟨rfl, ext_trans X4.out (ext_alloc _ _)⟩

theorem ends_walk {B : Option Addr} {cb : Nat} {l : List UInt8} (at_ : Int) (w : World) (h : Rd w B cb l) (hat : -9223372036854775808 ≤ at_ ∧ at_ ≤ 9223372036854775807) :
    Calls Try.prog 4 #[.slice B l.length cb, .int .i64 at_] w fun e w' => e = .returned (.bool true) ∧ Below w.heap.size w w' := by
  by_cases h1 : 2000 < l.length
  · exact ends_big at_ w h h1
  · have hp := pick_range at_ ((l.length : Int) + 1) (by omega)
    obtain ⟨a, ha⟩ : ∃ a : Nat, pick at_ ((l.length : Int) + 1) = a := ⟨_, (Int.toNat_of_nonneg hp.1).symm⟩
    rw [ha] at hp
    have hal : a ≤ l.length := by omega
    obtain ⟨⟨S, n, f, x⟩, hR⟩ : ∃ R, readS l a = R := ⟨_, rfl⟩
    have he := read_ends hal
    rw [hR] at he
    rcases he with ⟨hf, h2, h3, h4, h5⟩ | ⟨hf, N, hN, h2, h3, h4, h5, h6, h7⟩
    · simp only at hf h2 h3 h4 h5
      subst h2; subst h3
      exact ends_fault at_ a f x w h (by omega) ha hR hf ⟨h4, h5⟩ hat hal
    · simp only at hf h2 h3 h4 h5 h6 h7
      have hx : x = 0 := rd_fine hR hf
      subst h2; subst hf; subst hx
      obtain ⟨nx, rfl⟩ : ∃ nx : Nat, n = nx := ⟨n.toNat, by omega⟩
      exact ends_name at_ a nx N w h (by omega) ha hR hN h3 (by omega) (by omega) (by omega) (fun e => h7 (by omega)) hat
end Go.Proofs.Ytfimfmghfjokjaa

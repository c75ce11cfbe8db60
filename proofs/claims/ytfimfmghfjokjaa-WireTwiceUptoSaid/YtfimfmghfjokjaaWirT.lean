/- WireTwice: a name that is told twice is two bytes the second time, and so is each of its tails; but for the root, which is one. -/
import Derived.Test.YtfimfmghfjokjaaWirK
import Derived.Test.YtfimfmghfjokjaaNamP
import Derived.Test.YtfimfmghfjokjaaKPick
import Derived.Deep.RegionHeld3
namespace Go.Proofs.Ytfimfmghfjokjaa
open Go.BK Go.RowKit Go.BK.NM
set_option linter.unusedVariables false

/-- All tails of labels, each at its place. -/
def tailsA (at_ : Nat) : Nat → List Bs → Tails
  | _, [] => []
  | o, s :: L => (wire (s :: L), at_ + o) :: tailsA at_ (o + 1 + s.length) L
theorem pack_first {at_ : Nat} : ∀ (L : List Bs) (o : Nat), at_ + o + (wire L).length ≤ 16384 → packL [] at_ o L = (wire L, tailsA at_ o L) := by
  intro L
  induction L with
  | nil => intro o _; rfl
  | cons s L ih =>
    intro o h
    have hw := wire_cons s L
    rw [hw] at h
    simp at h
    have h1 : 1 ≤ (wire L).length := by rw [wire_len]; omega
    rw [packL_new (look_nil _), ih (o + 1 + s.length) (by omega), if_pos (by omega)]
    simp [tailsA, hw]
theorem tailsA_len {at_ : Nat} : ∀ (L : List Bs) (o : Nat), (tailsA at_ o L).length = L.length := by
  intro L
  induction L with
  | nil => intro o; rfl
  | cons s L ih => intro o; simp [tailsA, ih]
theorem tailsA_mem {at_ : Nat} : ∀ (L : List Bs) (o i : Nat), i < L.length → ∃ k, (wire (L.drop i), k) ∈ tailsA at_ o L := by
  intro L
  induction L with
  | nil => intro o i h; simp at h
  | cons s L ih =>
    intro o i h
    rcases i with _ | i
    · exact ⟨at_ + o, by simp [tailsA]⟩
    · obtain ⟨k, hk⟩ := ih (o + 1 + s.length) i (by simpa using h)
      exact ⟨k, by simp [tailsA]; exact .inr hk⟩

theorem wire_two : ∀ (L : List Bs), okL L → 2 * L.length + 1 ≤ (wire L).length := by
  intro L
  induction L with
  | nil => intro _; simp [wire_len]
  | cons s L ih =>
    intro h
    have h1 := (h s (by simp)).1
    have h2 := ih (fun x hx => h x (by simp [hx]))
    rw [wire_cons]
    simp
    omega
theorem okL_drop {L : List Bs} (h : okL L) (i : Nat) : okL (L.drop i) := fun s hs => h s (List.mem_of_mem_drop hs)
theorem wire_drop : ∀ (L : List Bs) (i : Nat), (wire (L.drop i)).length ≤ (wire L).length := by
  intro L
  induction L with
  | nil => intro i; simp
  | cons s L ih =>
    intro i
    rcases i with _ | i
    · simp
    · have := ih i
      have h2 := wire_shrinks s L
      simp only [List.drop_succ_cons]
      omega
/-- Each tail of a name that has been told is found. -/
theorem twice_hit {a i : Nat} {L : List Bs} (h : a + (wire L).length ≤ 16384) (hi : i < L.length) : ∃ k, k < 16384 ∧ lookT (tailsA a 0 L) (wire (L.drop i)) = some k := by
  obtain ⟨k, hk⟩ := tailsA_mem (at_ := a) L 0 i hi
  have hp := pack_first (at_ := a) L 0 (by omega)
  have hf := packL_fresh (T := []) (at_ := a) L 0
  rw [hp] at hf
  exact ⟨k, (hf.1 _ hk).2.1, (look_iff hf.2 _ _).2 hk⟩
theorem twice_pack {T : Tails} {e i k : Nat} {L : List Bs} (hL : okL L) (hl : (wire L).length ≤ 255) (he : e ≤ 65535) (hi : i < L.length) (hk : lookT T (wire (L.drop i)) = some k) :
    packS T e (e : Int) (wire (L.drop i)) = ([UInt8.ofNat (192 + k / 256), UInt8.ofNat (k % 256)], 0, T, e + 2) := by
  have hd := wire_drop L i
  have ho := okL_drop hL i
  rw [List.drop_eq_getElem_cons hi] at hk hd ho ⊢
  have := pack_ok (T := T) (e := e) (a := e) ho (by omega) he (Nat.le_refl _) (packL_hit hk)
  simpa using this
theorem twice_root {T : Tails} {e : Nat} (he : e ≤ 65535) : packS T e (e : Int) [0] = ([0], 0, T, e + 1) := by
  have h := pack_ok (T := T) (e := e) (a := e) (L := []) (R := ([0], [])) (by simp) (by decide) he (Nat.le_refl _) rfl
  rw [List.append_nil] at h
  exact h
theorem twice_up {i : Nat} {L : List Bs} (hL : okL L) (hl : (wire L).length ≤ 255) (hi : i < L.length) : parentS (wire (L.drop i)) = (wire (L.drop (i + 1)), true) := by
  have hd := wire_drop L i
  have ho := okL_drop hL i
  rw [List.drop_eq_getElem_cons hi] at hd ho ⊢
  exact parent_some (lab_ok ho (by omega))
theorem twice_top : parentS [0] = ([], false) := parent_none (by rw [show ([0] : Bs) = wire [] from rfl, lab_ok (by simp) (by decide)])

def TwiceRel (w : World) (g mb b : Nat) (Ls : List Bs) (a : Nat) (A : Option Addr) (c : Nat) (T : Tails) (n en iv : Value) (wr : World) : Prop :=
  ∃ i e : Nat, i ≤ Ls.length ∧ e = a + (wire Ls).length + 2 * i ∧ n = .string (str (wire (Ls.drop i))) ∧ en = .int .i64 e ∧ iv = .int .i64 i ∧ Hid (PackW wr g mb T e) ∧ Hid (BK.Own wr b 5 A c (wire Ls)) ∧ Hid (Below w.heap.size w wr)

set_option maxHeartbeats 2000000 in
set_option maxRecDepth 100000 in
theorem twice_none (n : Bs) (at_ : Int) (w : World) (hn : n.length ≤ 2000000) (hE : checkS n ≠ 0) :
    Calls Try.prog 9 #[.string (str n), .int .i64 at_] w fun e w' => e = .returned (.bool true) ∧ Below w.heap.size w w' := by
  have CC := hid (fun W => check_in n W hn)
  obtain ⟨E, hEE⟩ : ∃ E, E = checkS n := ⟨_, rfl⟩
  rw [← hEE] at CC hE
  have z1 : (E != 0) = true := by simpa using hE
  clear hEE hE
  go_enter Try.func9, Try.ntmps9
  go_wp2_with fail
  (with_reducible refine (awake_yes _).mono ?_)
  rintro e w1 ⟨rfl, x1⟩
  have X1 := hid x1
  clear x1
  go_wp2_with fail
  (with_reducible refine (new_in _).mono ?_)
  rintro e w2 ⟨g, mb, rfl, p2, g2, m2, x2⟩
  have X2 := hid (ext_trans X1.out x2)
  clear p2 x2
  go_wp2_with fail
  (with_reducible refine (CC.out _).mono ?_)
  rintro e w3 ⟨rfl, x3⟩
  have X3 := hid (ext_trans X2.out x3)
  clear x3
  go_wp2_with fail
  go_ret
  exact ⟨rfl, X3.out⟩

set_option maxHeartbeats 4000000 in
set_option maxRecDepth 100000 in
theorem twice_ok (Ls : List Bs) (at_ : Int) (a : Nat) (w : World) (hL : okL Ls) (hl : (wire Ls).length ≤ 255) (hat : -9223372036854775808 ≤ at_ ∧ at_ ≤ 9223372036854775807) (hp : pick at_ 16001 = a) (ha : a ≤ 16000) :
    Calls Try.prog 9 #[.string (str (wire Ls)), .int .i64 at_] w fun e w' => e = .returned (.bool true) ∧ Below w.heap.size w w' := by
  have hlab := labels_ok (labS_wire hL) hl
  have CC := hid (fun W => check_in (wire Ls) W (by omega))
  rw [show checkS (wire Ls) = 0 from by unfold checkS; rw [hlab]] at CC
  have CN := hid (fun W => count_in (wire Ls) W (by omega))
  rw [hlab] at CN
  simp only at CN
  have CP := hid (fun W => pick_any at_ 16001 W hat (by omega))
  rw [hp] at CP
  have hpk : packS [] 0 a (wire Ls) = (wire Ls, 0, tailsA a 0 Ls, a + (wire Ls).length) := by
    have := pack_ok (T := []) (e := 0) (a := a) (L := Ls) hL hl (by omega) (by omega) (pack_first Ls 0 (by omega))
    simpa using this
  have HPK := hid hpk
  have hwc := wire_count Ls
  have hcnt := tailsA_len (at_ := a) Ls 0
  have HL := hid (And.intro hL hl)
  obtain ⟨T, hT⟩ : ∃ T, T = tailsA a 0 Ls := ⟨_, rfl⟩
  rw [← hT] at HPK hcnt
  have HT := hid hT
  have HCT := hid hcnt
  have hTl : T.length ≤ 255 := by omega
  have hln : Ls.length ≤ 255 := by omega
  clear hpk hlab hp hT hcnt hL hwc
  go_enter Try.func9, Try.ntmps9
  go_wp2_with fail
  (with_reducible refine (awake_yes _).mono ?_)
  rintro e w1 ⟨rfl, x1⟩
  have X1 := hid x1
  clear x1
  go_wp2_with fail
  (with_reducible refine (new_in _).mono ?_)
  rintro e w2 ⟨g, mb, rfl, p2, g2, m2, x2⟩
  have X2 := hid (ext_trans X1.out x2)
  have hg0 : w.heap.size ≤ g := by have := X1.out.size; omega
  have hm0 : w.heap.size ≤ mb := by have := X1.out.size; omega
  have hgl : g < w2.heap.size := p2.1.lt
  have hml : mb < w2.heap.size := p2.2.1.lt
  have P2 := hid p2
  clear p2 x2 g2 m2
  go_wp2_with fail
  (with_reducible refine (CC.out _).mono ?_)
  rintro e w3 ⟨rfl, x3⟩
  have X3 := hid (ext_trans X2.out x3)
  have P3 := hid (P2.out.ext x3)
  have hz3 := x3.size
  clear x3
  go_wp2_with fail
  (with_reducible refine (CP.out _).mono ?_)
  rintro e _ ⟨rfl, rfl⟩
  go_wp2_with fail
  (with_reducible refine (name_in (a : Int) (wire Ls) P3.out (by omega) (by simp) HPK.out).mono ?_)
  rintro e w4 ⟨A, c, rfl, o4, p4, s4⟩
  simp only at o4 p4
  have P4 := hid p4
  have O4 := hid o4
  have y4 : Below w.heap.size w w4 := Below.trans X3.out (s4.below X3.out.size (fun k hk e => by omega))
  have Y4 := hid y4
  have hz4 := s4.size
  clear p4 o4 s4 y4
  obtain ⟨A5, c5, w5, hcv, r5, x5⟩ := conv_sb (P := Try.prog) w4 (wire Ls) 9 22 5 Try.underlying9 Try.underlying22 Try.underlying5 (by omega)
  have R5 := hid r5
  have hz5 := x5.size
  have P5 := hid (P4.out.ext x5)
  have O5 := hid (O4.out.ext x5)
  have Y5 := hid (below_ext Y4.out Y4.out.size x5)
  clear r5 x5
  go_wp2_with fail
  (with_reducible refine (same_yes O5.out.rd R5.out rfl).mono ?_)
  rintro e _ ⟨rfl, rfl⟩
  have KN := hid (known_in P5.out)
  rw [HCT.out] at KN
  go_wp2_with fail
  (with_reducible refine KN.out.mono ?_)
  rintro e _ ⟨rfl, rfl⟩
  go_wp2_with fail
  (with_reducible refine (CN.out _).mono ?_)
  rintro e w6 ⟨rfl, x6⟩
  have P6 := hid (P5.out.ext x6)
  have O6 := hid (O5.out.ext x6)
  have Y6 := hid (below_ext Y5.out Y5.out.size x6)
  clear x6
  go_wp2_with fail
  have hb0 : w.heap.size ≤ w3.heap.size := by have := X3.out.size; omega
  have h2l := hid (wire_two Ls HL.out.1)
  have hl9 : (wire Ls).length ≤ 255 := HL.out.2
  have hl7 : Ls.length ≤ 127 := by have := h2l.out; omega
  obtain ⟨b0, hb3⟩ : ∃ b, b = w3.heap.size := ⟨_, rfl⟩
  rw [← hb3] at O6 hb0 hz3
  have hgb : g < b0 := by omega
  have hmb : mb < b0 := by omega
  obtain ⟨lw, hlw⟩ : ∃ lw, lw = (wire Ls).length := ⟨_, rfl⟩
  have HLW := hid hlw
  rw [← hlw] at P6 hl9 ⊢
  clear X1 X2 X3 P2 P3 P4 P5 O4 O5 Y4 Y5 R5 KN hb3 hlw hz4 hz5 HPK CC CP hgl hml hcv hz3
  go_loopw [0, 9, 10, 11] (fun n en iv _ wr => TwiceRel w g mb b0 Ls a A c T n en iv wr) (fun _ _ iv _ _ => 130 - (intOf iv).toNat)
  case atStart => exact ⟨0, a + lw, by omega, by rw [← HLW.out]; omega, by simp, by simp, rfl, P6, O6, Y6⟩
  case round =>
    obtain ⟨i, e, hi, he, rfl, rfl, rfl, PP, OO, YY⟩ := hrel
    rw [← HLW.out] at he
    rcases Nat.lt_or_ge i Ls.length with hlt | hge
    · obtain ⟨k, hk1, hk2⟩ := twice_hit (a := a) (L := Ls) (by rw [← HLW.out]; omega) hlt
      rw [← HT.out] at hk2
      have PK := twice_pack (T := T) (e := e) HL.out.1 HL.out.2 (by omega) hlt hk2
      have UP := twice_up HL.out.1 HL.out.2 hlt
      have dl : (wire (Ls.drop i)).length ≤ 255 := Nat.le_trans (wire_drop Ls i) HL.out.2
      obtain ⟨t0, ht0⟩ : ∃ t : UInt8, t = UInt8.ofNat (192 + k / 256) := ⟨_, rfl⟩
      have ht1 : 192 ≤ t0.toNat := by rw [ht0, UInt8.toNat_ofNat']; omega
      obtain ⟨t2, ht2⟩ : ∃ t : UInt8, t = UInt8.ofNat (k % 256) := ⟨_, rfl⟩
      rw [← ht0, ← ht2] at PK
      clear ht0 ht2 hk1 hk2
      obtain ⟨nw, hnw⟩ : ∃ nw, nw = wire (Ls.drop (i + 1)) := ⟨_, rfl⟩
      have HNW := hid hnw
      rw [← hnw] at UP
      clear hnw
      generalize wire (Ls.drop i) = ni at *
      have PKH := hid PK
      have UPH := hid UP
      have HE := hid he
      have he9 : e ≤ 20000 := by omega
      have hi9 : i ≤ 127 := by omega
      have CU := hid (fun W => parent_in ni W (by omega))
      rw [UP] at CU
      simp only at CU
      clear PK UP he
      go_wp2_with fail
      (with_reducible refine (name_lit (e : Int) ni _ rfl PP.out (by omega) (by omega) PKH.out 2 rfl).mono ?_)
      rintro ee w7 ⟨A7, c7, rfl, o7, p7, s7⟩
      have P7 := hid p7
      have OO7 := hid (keep_own OO.out s7 hgb hmb)
      have Y7 := hid (YY.out.trans (s7.below YY.out.size (fun k hk e => by omega)))
      have R7 := hid o7.rd
      clear p7 o7 s7
      go_wp2_with fail
      (with_reducible refine (CU.out _).mono ?_)
      rintro ee w8 ⟨rfl, x8⟩
      have P8 := hid (P7.out.ext x8)
      have OO8 := hid (OO7.out.ext x8)
      have Y8 := hid (below_ext Y7.out Y7.out.size x8)
      obtain ⟨b7, o7, rfl, _, q7⟩ := (R7.out.ext x8).2.2.2 (by simp)
      have q0 := q7 0 _ rfl
      simp only [Nat.add_zero] at q0
      have z1 : decide ((t0.toNat : Int) < 192) = false := by rw [decide_eq_false_iff_not]; omega
      have z2 : decide (t0.toNat < 192) = false := by rw [decide_eq_false_iff_not]; omega
      clear x8 q7 P7 OO7 Y7 R7
      go_wp2_with fail
      refine ⟨⟨i + 1, e + 2, by omega, ?_, by rw [HNW.out], by simp, by simp, P8, OO8, Y8⟩, by simp [intOf]; omega⟩
      have h1 := HE.out
      have h2 := HLW.out
      omega
    · obtain rfl : i = Ls.length := by omega
      have he9 : e ≤ 20000 := by omega
      have hdr : wire (Ls.drop Ls.length) = [0] := by rw [List.drop_length]; rfl
      rw [hdr]
      clear hdr hge he
      go_wp2_with fail
      (with_reducible refine (name_lit (e : Int) [0] _ rfl PP.out (by simp) (by omega) (twice_root (by omega)) 1 rfl).mono ?_)
      rintro ee w7 ⟨A7, c7, rfl, o7, p7, s7⟩
      have P7 := hid p7
      have OO7 := hid (keep_own OO.out s7 hgb hmb)
      have Y7 := hid (YY.out.trans (s7.below YY.out.size (fun k hk e => by omega)))
      have R7 := hid o7.rd
      clear p7 o7 s7
      go_wp2_with fail
      have CU := parent_in [0] w7 (by simp)
      rw [twice_top] at CU
      simp only at CU
      (with_reducible refine CU.mono ?_)
      rintro ee w8 ⟨rfl, x8⟩
      have Y8 := hid (below_ext Y7.out Y7.out.size x8)
      have KN : Hid (∀ W, Ext w8 W → Calls Try.prog 20 #[.pointer (some ⟨g, 0, none⟩)] W fun e' w' => e' = .returned (.int .i64 Ls.length) ∧ W = w') := hid (fun W hW => by
        have := known_in (P7.out.ext (ext_trans x8 hW))
        rw [HCT.out] at this
        exact this)
      have RA : Hid (∀ W, Ext w8 W → Rd W A c (wire Ls)) := hid (fun W hW => (OO7.out.ext (ext_trans x8 hW)).rd)
      have RB : Hid (∀ W, Ext w8 W → Rd W A7 c7 [0]) := hid (fun W hW => R7.out.ext (ext_trans x8 hW))
      clear x8 P7 OO7 Y7 R7 CU
      go_wp2_with fail
      have HW9 : Ext w8 ((w8.alloc (.cells #[.int .u8 0] 5)).drew) := ext_trans (ext_alloc _ _) (ext_drew _)
      have SZ : Hid (Calls Try.prog 22 #[.slice A7 1 c7, .slice (some ⟨w8.heap.size, 0, none⟩) 1 1] ((w8.alloc (.cells #[.int .u8 0] 5)).drew) fun e w' => e = .returned (.bool true) ∧ ((w8.alloc (.cells #[.int .u8 0] 5)).drew) = w') :=
        hid (same_yes (RB.out _ HW9) ((Own.lit_at w8 _ [0] 5 #[.int .u8 0] rfl rfl (by unfold maxLen; decide)).rd.ext (ext_drew _)) rfl)
      have hcv : (convert 22 9 (.slice A lw c)).run Try.prog ((w8.alloc (.cells #[.int .u8 0] 5)).drew) = .ok (.string (str (wire Ls))) ((w8.alloc (.cells #[.int .u8 0] 5)).drew) := by
        rw [HLW.out]
        exact run_convert_rd (RA.out _ HW9) 22 5 Try.underlying22 Try.underlying5 9 Try.underlying9
      go_region_with (first
        | (go_at_call 22; (with_reducible refine SZ.out.mono ?_); rintro ee _ ⟨rfl, rfl⟩)
        | (go_at_call 20; first
            | ((with_reducible refine (KN.out _ HW9).mono ?_); rintro ee _ ⟨rfl, rfl⟩)
            | ((with_reducible refine (KN.out _ X9.out).mono ?_); rintro ee _ ⟨rfl, rfl⟩))
        | (go_at_call 24; (with_reducible refine (CN.out _).mono ?_); rintro ee w9 ⟨rfl, x9⟩; have X9 := hid (ext_trans HW9 x9); have Y9 := hid (below_ext Y8.out Y8.out.size X9.out)))
      all_goals
        go_wp2_with fail
        go_ret
        exact ⟨rfl, Y9.out⟩

theorem twice_walk (s : ByteArray) (at_ : Int) (w : World) (hs : s.size ≤ 2000000) (hat : -9223372036854775808 ≤ at_ ∧ at_ ≤ 9223372036854775807) :
    Calls Try.prog 9 #[.string s, .int .i64 at_] w fun e w' => e = .returned (.bool true) ∧ Below w.heap.size w w' := by
  obtain ⟨n, rfl⟩ : ∃ n, s = str n := ⟨s.data.toList, by simp [str]⟩
  rw [str_size] at hs
  by_cases h1 : checkS n = 0
  · rcases labels_cases n with ⟨hl, _⟩ | ⟨L, _, _, hl⟩ | ⟨L, hL, hlen, hl⟩
    · unfold checkS at h1; rw [hl] at h1; cases h1
    · unfold checkS at h1; rw [hl] at h1; cases h1
    · obtain ⟨rfl, hok⟩ := labS_some hL
      have hp := pick_range at_ 16001 (by omega)
      obtain ⟨a, ha⟩ : ∃ a : Nat, pick at_ 16001 = a := ⟨_, (Int.toNat_of_nonneg hp.1).symm⟩
      rw [ha] at hp
      exact twice_ok L at_ a w hok hlen hat ha (by omega)
  · exact twice_none n at_ w hs h1
end Go.Proofs.Ytfimfmghfjokjaa

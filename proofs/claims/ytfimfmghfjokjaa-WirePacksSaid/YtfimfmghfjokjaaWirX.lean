/- WirePacks: names that a packer tells, one behind the other, are told as the document's packer tells them. -/
import Derived.Test.YtfimfmghfjokjaaRefN
import Derived.Test.YtfimfmghfjokjaaKOver
import Derived.Test.YtfimfmghfjokjaaKSame
import Derived.Deep.QuietTactic
import Derived.IntWalk
namespace Go.Proofs.Ytfimfmghfjokjaa
open Go.BK Go.RowKit Go.BK.NM
set_option linter.unusedVariables false

/-- The document's Packer: Name, whatever the name and the place. -/
theorem ref_in {w : World} {q c e : Nat} {A : Option Addr} {T : Tails} (at_ : Int) (n : Bs) (h : QW w q A c T e) (hn : n.length ≤ 100000) (hT : T.length ≤ 1000000) (hT4 : ∀ p ∈ T, p.2 < 16384) {O : Bs} {E : Int} {T' : Tails} {e' : Nat} (hR : packS T e at_ n = (O, E, T', e')) :
    Calls Try.prog 21 #[.pointer (some ⟨q, 0, none⟩), .int .i64 at_, .string (str n)] w fun ee w' => ∃ Ao co A' c', ee = .returned (.tuple #[.slice Ao O.length co, .int .i64 E]) ∧ BK.Own w' w.heap.size 5 Ao co O ∧ QW w' q A' c' T' e' ∧
      (∀ b, blk A' = some b → blk A = some b ∨ w.heap.size ≤ b) ∧ Shy (fun k => k = q ∨ blk A = some k) w w' := by
  have fin : ∀ E2, Calls Try.prog 21 #[.pointer (some ⟨q, 0, none⟩), .int .i64 at_, .string (str n)] w (fun e' w' => e' = .returned (.tuple #[.slice none 0 0, .int .i64 E2]) ∧ Ext w w') → packS T e at_ n = ([], E2, T, e) →
      Calls Try.prog 21 #[.pointer (some ⟨q, 0, none⟩), .int .i64 at_, .string (str n)] w fun ee w' => ∃ Ao co A' c', ee = .returned (.tuple #[.slice Ao O.length co, .int .i64 E]) ∧ BK.Own w' w.heap.size 5 Ao co O ∧ QW w' q A' c' T' e' ∧ (∀ b, blk A' = some b → blk A = some b ∨ w.heap.size ≤ b) ∧ Shy (fun k => k = q ∨ blk A = some k) w w' := by
    intro E2 hc hp
    rw [hp] at hR
    cases hR
    refine hc.mono ?_
    rintro e' w' ⟨rfl, x⟩
    exact ⟨none, 0, A, c, rfl, BK.Own.nil _ _ _, h.ext x, fun b hb => .inl hb, Shy.of_ext x⟩
  by_cases h1 : checkS n = 0
  · by_cases h2 : at_ < 0 ∨ 65535 < at_
    · exact fin 2 (ref_err at_ n 2 h hn (.inr (.inl ⟨h1, h2, rfl⟩))) (by unfold packS; rw [if_neg (by simpa using h1), if_pos h2])
    · by_cases h3 : at_ < e
      · exact fin 9 (ref_err at_ n 9 h hn (.inr (.inr ⟨h1, by omega, by omega, h3, rfl⟩))) (by unfold packS; rw [if_neg (by simpa using h1), if_neg h2, if_pos h3])
      · obtain ⟨a, rfl⟩ := Int.eq_ofNat_of_zero_le (show 0 ≤ at_ by omega)
        rcases labels_cases n with ⟨hl, _⟩ | ⟨L, _, _, hl⟩ | ⟨L, hL, hlen, hl⟩
        · unfold checkS at h1; rw [hl] at h1; cases h1
        · unfold checkS at h1; rw [hl] at h1; cases h1
        · obtain ⟨rfl, hok⟩ := labS_some hL
          have hp := pack_ok (T := T) (e := e) (a := a) (L := L) hok hlen (by omega) (by omega) rfl
          rw [hR] at hp
          obtain ⟨rfl, rfl, rfl, rfl⟩ : O = (packL T a 0 L).1 ∧ E = 0 ∧ T' = T ++ (packL T a 0 L).2 ∧ e' = a + (packL T a 0 L).1.length := by
            cases hp; exact ⟨rfl, rfl, rfl, rfl⟩
          exact ref_ok a L h hok hlen (by omega) (by omega) hT hT4 rfl
  · exact fin _ (ref_err at_ n _ h hn (.inl ⟨h1, rfl⟩)) (by unfold packS; rw [if_pos h1])

theorem packS_bound {T T' : Tails} {e e' : Nat} {at_ E : Int} {n O : Bs} (h : packS T e at_ n = (O, E, T', e')) (he : e ≤ 65790) : e' ≤ 65790 ∧ T'.length ≤ T.length + 255 := by
  unfold packS at h
  split at h
  · cases h; omega
  · split at h
    · cases h; omega
    · split at h
      · cases h; omega
      · rename_i h1 h2 h3
        rcases labels_cases n with ⟨hl, _⟩ | ⟨L, _, _, hl⟩ | ⟨L, hL, hlen, hl⟩
        · exfalso; apply h1; unfold checkS; rw [hl]; decide
        · exfalso; apply h1; unfold checkS; rw [hl]; decide
        · obtain ⟨rfl, hok⟩ := labS_some hL
          rw [hl] at h
          simp only at h
          have h4 := packL_len (T := T) (at_ := at_.toNat) L 0 hok
          have h5 := packL_count (T := T) (at_ := at_.toNat) L 0
          have h6 := wire_count L
          cases h
          simp only [List.length_append]
          omega

def PacksRel (w : World) (g mb q k : Nat) (wr : World) : Prop :=
  ∃ (T : Tails) (e c : Nat) (A : Option Addr), e ≤ 65790 ∧ T.length ≤ 255 * k ∧ Hid (PackW wr g mb T e) ∧ Hid (QW wr q A c T e) ∧ Hid (Below w.heap.size w wr)

set_option maxHeartbeats 8000000 in
set_option maxRecDepth 100000 in
theorem packs_walk {A : Option Addr} {n c : Nat} {Nm : Nat → ByteArray} {T : Nat → Int} {R : Nat → Bool} (w : World) (hA : SActR w A n c Nm T R) :
    Calls Try.prog 7 #[.slice A n c] w fun e w' => e = .returned (.bool true) ∧ Below w.heap.size w w' := by
  have HSA := hid hA
  have CL := hid (fun W (h : Below w.heap.size w W) => long_any (hA.below h))
  have hn9 : n ≤ 9223372036854775807 := by have := hA.1; have := hA.2.1; unfold maxLen at *; omega
  have hc9 : c ≤ 9223372036854775807 := by have := hA.2.1; unfold maxLen at *; omega
  clear hA
  go_enter Try.func7, Try.ntmps7
  go_wp2_with fail
  (with_reducible refine (new_in _).mono ?_)
  rintro e w2 ⟨g, mb, rfl, p2, g2, m2, x2⟩
  have X2 := hid x2
  have hgl : g < w2.heap.size := p2.1.lt
  have hml : mb < w2.heap.size := p2.2.1.lt
  have P2 := hid p2
  clear p2 x2
  have X3 := hid (ext_trans X2.out (ext_alloc w2 (.cells #[.slice none 0 0, .int .i64 0] 54)))
  have P3 := hid (P2.out.ext (ext_alloc w2 (.cells #[.slice none 0 0, .int .i64 0] 54)))
  have Q3 : Hid (QW (w2.alloc (.cells #[.slice none 0 0, .int .i64 0] 54)) w2.heap.size none 0 [] 0) := hid ⟨Blk.new w2 54 #[.slice none 0 0, .int .i64 0], OwnG.nil _ _ _ _ _⟩
  go_wp2_with fail
  (with_reducible refine (CL.out _ X3.out).mono ?_)
  rintro e _ ⟨bb, rfl, hb, rfl⟩
  rcases bb with _ | _
  case true =>
    go_wp2_with fail
    (with_reducible refine (awake_yes _).mono ?_)
    rintro e w4 ⟨rfl, x4⟩
    have X4 := hid (below_ext X3.out X3.out.size x4)
    clear x4
    go_wp2_with fail
    go_ret
    exact ⟨rfl, X4.out⟩
  have hn60 := (hb rfl).1
  have HN := hid (hb rfl).2
  clear hb CL
  obtain ⟨q, hq⟩ : ∃ q, q = w2.heap.size := ⟨_, rfl⟩
  obtain ⟨w3, hw3⟩ : ∃ w3, w3 = w2.alloc (.cells #[.slice none 0 0, .int .i64 0] 54) := ⟨_, rfl⟩
  have hwq : w.heap.size ≤ q := by rw [hq]; exact X2.out.size
  rw [← hq] at hgl hml Q3
  rw [← hw3] at X3 P3 Q3 ⊢
  rw [← hq]
  clear hq hw3 P2 X2
  go_wp2_with fail
  go_loopw [5] (fun i wr => ∃ k : Nat, k ≤ n ∧ i = .int .i64 k ∧ PacksRel w g mb q k wr) (fun i _ => n - (intOf i).toNat)
  case atStart => exact ⟨0, Nat.zero_le _, rfl, [], 0, 0, none, by omega, by simp, P3, Q3, X3⟩
  case round =>
    obtain ⟨k, hk, rfl, T0, e, c0, A0, q1, q2, PP, QQ, YY⟩ := hrel
    by_cases hlt : k < n
    case neg =>
      obtain rfl : k = n := by omega
      go_wp2_with fail
      (with_reducible refine (awake_yes _).mono ?_)
      rintro e w4 ⟨rfl, x4⟩
      have X4 := hid (below_ext YY.out YY.out.size x4)
      clear x4
      go_wp2_with fail
      go_ret
      exact ⟨rfl, X4.out⟩
    obtain ⟨bl, oo, rfl, hbl, s1, s2, s3, b1, b2⟩ := HSA.out.2.2 k hlt
    have hn4 := HN.out k hlt
    obtain ⟨nn, hnn⟩ : ∃ nn, Nm k = str nn := ⟨(Nm k).data.toList, by simp [str]⟩
    rw [hnn] at s1 hn4
    rw [str_size] at hn4
    obtain ⟨ti, hti⟩ : ∃ ti, T k = ti := ⟨_, rfl⟩
    rw [hti] at s2 b2
    obtain ⟨ri, hri⟩ : ∃ ri, R k = ri := ⟨_, rfl⟩
    rw [hri] at s3
    have HC : Hid (∀ W, Below w.heap.size w W → W.cell? ⟨bl, oo + k * 3, none⟩ = some (.string (str nn)) ∧ W.cell? ⟨bl, oo + k * 3 + 1, none⟩ = some (.int .i64 ti) ∧ W.cell? ⟨bl, oo + k * 3 + 2, none⟩ = some (.bool ri)) := hid (fun W hW => ⟨(hW.cell hbl).trans s1, (hW.cell hbl).trans s2, (hW.cell hbl).trans s3⟩)
    clear s1 s2 s3 b1 hnn hti hri
    obtain ⟨t1, t2, t3⟩ := HC.out _ YY.out
    obtain ⟨d0, d1, df⟩ := QQ.out.1.two
    have hp := pick_range ti 20000 (by omega)
    obtain ⟨pv, hpv⟩ : ∃ pv : Nat, pick ti 20000 = pv := ⟨_, (Int.toNat_of_nonneg hp.1).symm⟩
    have CP := hid (fun W => pick_any ti 20000 W b2 (by omega))
    rw [hpv] at CP hp
    clear hpv
    have wr1 : IntKind.i64.wrap ((e : Int) + (pv : Int)) = (e : Int) + (pv : Int) := IntWalk.i64_in _ (by omega)
    go_upto_if 41 with (fail)
    go_cut [6] (fun a wx => ∃ av : Int, a = .int .i64 av ∧ (-9223372036854775808 ≤ av ∧ av ≤ 9223372036854775807) ∧ Hid (Ext wr wx))
    case first =>
      cases ri with
      | true =>
        go_wp2_with fail
        go_meet
        exact ⟨ti, rfl, b2, hid (ext_refl _)⟩
      | false =>
        go_wp2_with fail
        go_quiet ((go_at_call 15; exact quiet_sym (CP.out _)))
        go_wp2_with fail
        go_meet
        exact ⟨(e : Int) + (pv : Int), rfl, by omega, hid (ext_drewN _ _)⟩
    case rest =>
      obtain ⟨av, rfl, hav, XC⟩ := hcut
      obtain ⟨⟨O, E, T1, e1⟩, hR⟩ : ∃ R, packS T0 e av nn = R := ⟨_, rfl⟩
      obtain ⟨hb1, hb2⟩ := packS_bound hR q1
      have HR := hid hR
      have YC := hid (below_ext YY.out YY.out.size XC.out)
      have PC := hid (PP.out.ext XC.out)
      have QC := hid (QQ.out.ext XC.out)
      have hT4 := hid (fun p (hp : p ∈ T0) => (PP.out.2.2.2 p hp).1)
      have LA := hid QC.out.2.lt
      have hqc : q < wc.heap.size := QC.out.1.lt
      have hT0 : T0.length ≤ 100000 := by omega
      obtain ⟨u1, _, _⟩ := HC.out _ YC.out
      clear t1 t2 t3 d0 d1 df CP wr1 hR PP QQ YY XC
      go_wp2_with fail
      (with_reducible refine (name_lit av nn _ rfl PC.out (by omega) (by omega) HR.out O.length rfl).mono ?_)
      rintro ee w5 ⟨A5, c5, rfl, o5, p5, s5⟩
      have O5 := hid o5
      have P5 := hid p5
      have Q5 := hid (QC.out.shy s5 (fun e => by omega) (fun b hb e => by have := (LA.out b hb).1; omega))
      have Y5 := hid (YC.out.trans (s5.below YC.out.size (fun k hk e => by omega)))
      have hz5 := s5.size
      obtain ⟨u5, _, _⟩ := HC.out _ Y5.out
      clear o5 p5 s5 PC QC YC u1
      go_wp2_with fail
      (with_reducible refine (ref_in av nn Q5.out (by omega) (by omega) hT4.out HR.out).mono ?_)
      rintro ee w6 ⟨A6, c6, A7, c7, rfl, o6, q6, n6, s6⟩
      have P6 := hid (P5.out.shy s6 (fun e => by rcases e with e | e; (· omega); (· have := (LA.out _ e).1; omega)) (fun e => by rcases e with e | e; (· omega); (· have := (LA.out _ e).1; omega)))
      have O6 := hid (s6.ownG O5.out (fun b hb e => by have h1 := (OwnG.lt O5.out b hb).1; rcases e with e | e; (· omega); (· have := (LA.out _ e).2; omega)))
      have L5 := hid (OwnG.lt O5.out)
      have Y6 := hid (Y5.out.trans (s6.below Y5.out.size (fun k hk e => by rcases e with e | e; (· omega); (· have := (LA.out _ e).1; omega))))
      have Q6 := hid q6
      have N6 := hid n6
      have CS := hid (fun W (hW : Ext w6 W) => same_yes (n := O.length) (RdG.ext (OwnG.rd O6.out) hW) (o6.rd.ext hW) rfl)
      have CK := hid (fun W (hW : Ext w6 W) => known_in (P6.out.ext hW))
      have OV := hid (fun m => over_bytes (w := w6.drewN m) (l := O) (A := A5) (c := c5) (base := wc.heap.size) (OwnG.ext O6.out (ext_drewN w6 m)))
      obtain ⟨d0, d1, df⟩ := q6.1.two
      have hz6 := s6.size
      clear o6 q6 n6 s6 P5 Q5 Y5 u5 hT4 HR
      go_wp2_with fail
      go_quiet ((first | (go_at_call 22; exact quiet_sym (CS.out _ (ext_drewN _ _))) | (go_at_call 20; exact quiet_sym (CK.out _ (ext_drewN _ _)))))
      go_wp2_with fail
      (with_reducible refine (OV.out _).mono ?_)
      rintro ee w7 ⟨rfl, g7, l', _, o7⟩
      have g8 := grown_trans (grown_of_ext (ext_drewN w6 _) _) g7
      have G8 := hid g8
      clear g7 g8 o7 d0 d1 df
      go_wp2_with fail
      refine ⟨⟨k + 1, by omega, by go_num, T1, e1, c7, A7, hb1, by omega, hid ?_, hid ?_, hid ?_⟩, by simp [intOf]; omega⟩
      · exact pack_grown P6.out G8.out (fun e => by have := (L5.out _ e).1; omega) (fun e => by have := (L5.out _ e).1; omega)
      · refine Q6.out.shy (U := fun x => blk A5 = some x) ((Shy.refl _).grown G8.out (fun _ e _ => e)) (fun e => by have := (L5.out _ e).1; omega) (fun b hb e => ?_)
        have h1 := L5.out _ e
        rcases N6.out b hb with h2 | h2
        · have := (LA.out _ h2).2; omega
        · omega
      · exact Below.grown Y6.out G8.out Y6.out.size (fun b hb => by have := (L5.out _ hb).1; omega)
end Go.Proofs.Ytfimfmghfjokjaa

/- name.Join: the name of labels, or the error. -/
import Derived.Test.YtcgcadhnecakaaaBldB
import Derived.Test.YtcgcadhnecakaaaLabC
import Derived.Deep.QuietTactic
import Derived.BigQuiet
namespace Go.Proofs.Ytcgcadhnecakaaa
open Go.BK Go.RowKit Go.BK.NM
set_option linter.unusedVariables false

/-- The first label that may not be. -/
def joinE : List Bs → Int
  | [] => 0
  | s :: L => if s = [] then 2 else if 63 < s.length then 3 else joinE L
def joinS (L : List Bs) : Bs × Int := if joinE L = 0 then (if 255 < (wire L).length then ([], 3) else (wire L, 0)) else ([], joinE L)
def flat (K : List Bs) : Bs := K.flatMap (fun s => UInt8.ofNat s.length :: s)
theorem wire_flat (K : List Bs) : wire K = flat K ++ [0] := rfl
theorem flat_snoc (K : List Bs) (s : Bs) : flat (K ++ [s]) = flat K ++ (UInt8.ofNat s.length :: s) := by simp [flat]
theorem joinE_ok {L : List Bs} : joinE L = 0 ↔ okL L := by
  induction L with
  | nil => simp [joinE, okL]
  | cons s L ih =>
    unfold joinE
    by_cases h1 : s = []
    · subst h1
      simp [okL]
    · rw [if_neg h1]
      have h2 : 1 ≤ s.length := by rcases s with _ | _ <;> simp_all
      by_cases h3 : 63 < s.length
      · rw [if_pos h3]
        simp [okL]
        omega
      · rw [if_neg h3, ih]
        simp [okL]
        intro _
        exact ⟨h2, by omega⟩
theorem joinE_append {K L : List Bs} (h : okL K) : joinE (K ++ L) = joinE L := by
  induction K with
  | nil => rfl
  | cons s K ih =>
    have hs := h s (by simp)
    show (if s = [] then 2 else if 63 < s.length then 3 else joinE (K ++ L)) = _
    rw [if_neg (by rintro rfl; simp at hs), if_neg (by omega)]
    exact ih fun t ht => h t (by simp [ht])
theorem join_bad {K L : List Bs} {s : Bs} {E : Int} (h : okL K) (hE : joinE (s :: L) = E) (h0 : E ≠ 0) : joinS (K ++ s :: L) = ([], E) := by
  unfold joinS
  rw [joinE_append h, hE, if_neg h0]
theorem flat_len_le {K : List Bs} (h : okL K) : (flat K).length ≤ 64 * K.length := by
  induction K with
  | nil => simp [flat]
  | cons s K ih =>
    have hs := h s (by simp)
    have := ih fun t ht => h t (by simp [ht])
    have e : flat (s :: K) = UInt8.ofNat s.length :: s ++ flat K := by simp [flat]
    rw [e]
    simp
    omega
theorem RdG.text {w : World} {A : Option Addr} {c : Nat} {L : List Bs} (h : RdG w 1 A L.length c (L.map strV)) {k : Nat} (hk : k < L.length) : ∃ b o, A = some ⟨b, o, none⟩ ∧ b < w.heap.size ∧ w.cell? ⟨b, o + k, none⟩ = some (.string (str (L.getD k []))) := by
  obtain ⟨b, o, h1, h2, h3⟩ := RdG.at_ h hk
  exact ⟨b, o, h1, h2, by rw [h3]; simp [hk, strV]⟩
def JoinRel (w : World) (L : List Bs) (iv : Value) (wr : World) : Prop :=
  ∃ k : Nat, k ≤ L.length ∧ iv = .int .i64 k ∧ okL (L.take k) ∧ Bld wr (w.heap.size + 1) w.heap.size (flat (L.take k)) ∧ Below w.heap.size w wr

set_option maxHeartbeats 4000000 in
set_option maxRecDepth 100000 in
theorem join_in {A : Option Addr} {c : Nat} {L : List Bs} {w : World} (h : RdG w 1 A L.length c (L.map strV)) (hl : L.length ≤ 100000) :
    Calls Try.prog 13 #[.slice A L.length c] w fun e w' => e = .returned (.tuple #[.string (str (joinS L).1), .int .i64 (joinS L).2]) ∧ Ext w w' := by
  have H := hid h
  clear h
  have B0 := hid (Bld.new (w.alloc (.cells #[.pointer none, .slice none 0 0] 55)) (w.heap.size + 1) w.heap.size (Blk.new w _ _) (by omega) (by simp))
  go_enter Try.func13, Try.ntmps13
  go_wp2_with fail
  go_loopw [9] (fun iv wr => JoinRel w L iv wr) (fun iv _ => L.length - (intOf iv).toNat)
  case atStart => exact ⟨0, Nat.zero_le _, rfl, fun s hs => by simp at hs, B0.out, ext_alloc _ _⟩
  case round =>
    obtain ⟨k, hk, rfl, hok, hB, hb⟩ := hrel
    by_cases hlt : k < L.length
    · obtain ⟨bb, o, rfl, hbb, hcell⟩ := RdG.text H.out hlt
      have hc2 : wr.cell? ⟨bb, o + k, none⟩ = some (.string (str (L.getD k []))) := (hb.cell (p := ⟨bb, o + k, none⟩) hbb).trans hcell
      obtain ⟨s, hs⟩ : ∃ s, s = L.getD k [] := ⟨_, rfl⟩
      rw [← hs] at hc2
      have hsplit : L = L.take k ++ s :: L.drop (k + 1) := by
        rw [hs, List.getD_eq_getElem?_getD, List.getElem?_eq_getElem hlt, Option.getD_some, ← List.drop_eq_getElem_cons hlt, List.take_append_drop]
      have htk : L.take (k + 1) = L.take k ++ [s] := by
        rw [List.take_succ_eq_append_getElem hlt, hs, List.getD_eq_getElem?_getD, List.getElem?_eq_getElem hlt]; rfl
      obtain ⟨t, ht⟩ : ∃ t, t = str s := ⟨_, rfl⟩
      have htz : t.size = s.length := by rw [ht, str_size]
      rw [← ht] at hc2
      have HB := hid hB
      have Hb := hid hb
      have HS := hid (And.intro hok (And.intro hsplit (And.intro htk ht)))
      have HZ := hid htz
      have hfl := flat_len_le hok
      have hkl : (L.take k).length ≤ 100000 := by simp; omega
      clear hB hb hcell hs hsplit htk ht hok
      by_cases h0 : s.length = 0
      · have z1 : ((t.size : Int) == 0) = true := by rw [htz, h0]; rfl
        have hs0 : s = [] := List.eq_nil_of_length_eq_zero h0
        clear htz h0
        go_wp2_with fail
        go_ret2
        refine ⟨?_, Hb.out⟩
        rw [HS.out.2.1, join_bad HS.out.1 (E := 2) (by rw [hs0]; rfl) (by decide)]
        rfl
      have z1 : ((t.size : Int) == 0) = false := by rw [htz, beq_eq_false_iff_ne]; omega
      by_cases h63 : 63 < s.length
      · have z2 : decide ((63 : Int) < (t.size : Int)) = true := by rw [htz, decide_eq_true_iff]; omega
        have HL3 := hid (And.intro h0 h63)
        clear htz h0 h63
        go_wp2_with fail
        go_ret2
        refine ⟨?_, Hb.out⟩
        rw [HS.out.2.1, join_bad HS.out.1 (E := 3) (by unfold joinE; rw [if_neg (by rintro rfl; exact HL3.out.1 rfl), if_pos HL3.out.2]) (by decide)]
        rfl
      have z2 : decide ((63 : Int) < (t.size : Int)) = false := by rw [htz, decide_eq_false_iff_not]; omega
      have hs63 : 1 ≤ s.length ∧ s.length ≤ 63 := by omega
      have hfx : (flat (L.take k)).length ≤ 6400000 := by omega
      have C1 := write_byte (w.heap.size + 1) w.heap.size _ (UInt8.ofNat s.length) wr HB.out (by omega)
      rw [show ((UInt8.ofNat s.length).toNat : Int) = (s.length : Int) % 256 from by simp] at C1
      have HC1 := hid C1
      have hw8 : IntKind.u8.wrap (t.size : Int) = (s.length : Int) % 256 := by rw [htz, IntKind.wrap_u8]
      have hw9 : (t.size : Int) % 256 = (s.length : Int) % 256 := by rw [htz]
      clear htz h0 h63 C1
      go_wp2_with fail
      (with_reducible refine HC1.out.mono ?_)
      rintro e w5 ⟨rfl, B5, s5⟩
      have hb5 : Below w.heap.size w w5 := Below.trans Hb.out (s5.below Hb.out.size (fun j hj => by omega))
      have C2 := write_string (w.heap.size + 1) w.heap.size _ s w5 B5 (by simp; omega)
      rw [← HS.out.2.2.2] at C2
      have HC2 := hid C2
      have Hb5 := hid hb5
      clear B5 s5 C2 hb5
      go_wp2_with fail
      clear hw8 hw9
      (with_reducible refine HC2.out.mono ?_)
      rintro e w6 ⟨⟨v, rfl⟩, B6, s6⟩
      have hb6 : Below w.heap.size w w6 := Below.trans Hb5.out (s6.below Hb5.out.size (fun j hj => by omega))
      have HR := hid (And.intro B6 hb6)
      clear B6 s6 hb6
      go_wp2_with fail
      go_roundw
      case rel =>
        refine ⟨k + 1, by omega, by go_num, ?_, ?_, HR.out.2⟩
        · rw [HS.out.2.2.1]
          intro u hu
          rcases List.mem_append.1 hu with hu | hu
          · exact HS.out.1 u hu
          · simp at hu; subst hu; exact hs63
        · rw [HS.out.2.2.1, flat_snoc]
          have := HR.out.1
          rwa [List.append_assoc] at this
      case measure => simp [intOf]; omega
    · obtain rfl : k = L.length := by omega
      rw [List.take_length] at hok hB
      have hE := joinE_ok.2 hok
      have hfl := flat_len_le hok
      have C1 := write_string (w.heap.size + 1) w.heap.size _ [0] wr hB (by simp; omega)
      have e0 : str [0] = ⟨#[0]⟩ := rfl
      rw [e0, ← wire_flat] at C1
      have HC1 := hid C1
      have Hb := hid hb
      have HE := hid hE
      clear hB hb hE hok C1 e0
      go_wp2_with fail
      (with_reducible refine HC1.out.mono ?_)
      rintro e w5 ⟨⟨v, rfl⟩, B5, s5⟩
      have hb5 : Below w.heap.size w w5 := Below.trans Hb.out (s5.below Hb.out.size (fun j hj => by omega))
      have HB5 := hid B5
      have Hb5 := hid hb5
      clear B5 s5 hb5
      go_wp2_with fail
      refine (bld_len _ _ _ _ HB5.out).mono ?_
      rintro e _ ⟨rfl, rfl⟩
      by_cases hlong : 255 < (wire L).length
      · have z1 : decide ((255 : Int) < ((wire L).length : Int)) = true := by rw [decide_eq_true_iff]; omega
        have HL3 := hid hlong
        clear hlong
        go_wp2_with fail
        go_ret2
        refine ⟨?_, Hb5.out⟩
        unfold joinS
        rw [if_pos HE.out, if_pos HL3.out]
        rfl
      · have z1 : decide ((255 : Int) < ((wire L).length : Int)) = false := by rw [decide_eq_false_iff_not]; omega
        have HL3 := hid hlong
        clear hlong
        go_wp2_with fail
        (with_reducible refine (bld_string _ _ _ _ HB5.out).mono ?_)
        rintro e w6 ⟨rfl, b6⟩
        go_wp2_with fail
        go_ret2
        refine ⟨?_, Below.trans Hb5.out b6⟩
        unfold joinS
        rw [if_pos HE.out, if_neg HL3.out]
        rfl
end Go.Proofs.Ytcgcadhnecakaaa

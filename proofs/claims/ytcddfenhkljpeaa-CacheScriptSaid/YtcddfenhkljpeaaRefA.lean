import Derived.Test.YtcddfenhkljpeaaLabB
import Derived.Test.YtcddfenhkljpeaaCsB
import Derived.BigQuiet
/- The document's name layer: Labels and Check. -/
namespace Go.Proofs.Ytcddfenhkljpeaa
open Go.BK Go.RowKit Go.BK.NM
set_option linter.unusedVariables false

/-- Between two rounds: the labels so far, what is left from p on. -/
def RefRel (w : World) (n : Bs) (out pos : Value) (wr : World) : Prop :=
  ∃ (L : List Bs) (A : Option Addr) (c p : Nat), out = .slice A L.length c ∧ pos = .int .i64 p ∧ p ≤ n.length ∧ L.length ≤ p ∧ Hid (labS n = (labS (n.drop p)).map (L ++ ·)) ∧ Hid (OwnS wr w.heap.size A c L) ∧ Hid (Ext w wr)

set_option maxHeartbeats 4000000 in
set_option maxRecDepth 100000 in
theorem ref_labels (n : Bs) (w : World) (hn : n.length ≤ 2000000) :
    Calls Try.prog 63 #[.string (str n)] w fun e w' => ∃ A c, e = .returned (.tuple #[.slice A (labelsS n).1.length c, .int .i64 (labelsS n).2]) ∧ OwnS w' w.heap.size A c (labelsS n).1 ∧ Ext w w' := by
  obtain ⟨k0, ki, kz0, kz1, kz2⟩ := info_parts info_str
  obtain ⟨s, hs⟩ : ∃ s, s = str n := ⟨_, rfl⟩
  rw [← hs]
  have HS := hid hs
  have hsz : s.size = n.length := by rw [hs, str_size]
  have hs9 : s.size ≤ 2000000 := by omega
  have HSZ := hid hsz
  have hnil : ∀ (W : World), OwnS W w.heap.size none 0 [] := fun W => OwnG.nil _ _ _ _ _
  clear hs
  go_enter Try.func63, Try.ntmps63
  go_wp2_with fail
  go_loopw [4, 5] (fun o p wr => RefRel w n o p wr) (fun _ p _ => n.length - (intOf p).toNat)
  case atStart => exact ⟨[], none, 0, 0, rfl, rfl, Nat.zero_le _, Nat.zero_le _, hid (by simp), hid (hnil _), hid (ext_refl _)⟩
  case round =>
    obtain ⟨L, A, c, p, rfl, rfl, hp, hLp, LB, OW, XX⟩ := hrel
    rcases hr : n.drop p with _ | ⟨d, r⟩
    · have hpe : p = n.length := by
        have := congrArg List.length hr
        simp at this
        omega
      have hl := labels_none (n := n) (by rw [LB.out, hr, labS_nil]; rfl)
      have HL := hid hl
      have z1 : decide ((s.size : Int) ≤ (p : Int)) = true := by rw [decide_eq_true_iff]; omega
      have z1' : decide (s.size ≤ p) = true := by rw [decide_eq_true_iff]; omega
      have hq : s.size ≤ p := by omega
      have hq' : (s.size : Int) ≤ (p : Int) := by omega
      clear hsz hl hpe hr
      go_wp2_with fail
      go_ret2
      rw [HL.out]
      exact ⟨none, 0, rfl, hnil _, XX.out⟩
    · have hlen := congrArg List.length hr
      simp at hlen
      have hps : p < s.size := by omega
      have hpi : (p : Int) < (s.size : Int) := by omega
      have hd : s[p]'hps = d := by
        have h1 : (str n).data[p]? = some (n.getD p 0) := str_lt (by omega)
        have h2 : n.getD p 0 = d := by
          have := congrArg (fun l => l.getD 0 0) hr
          simpa using this
        obtain ⟨n', rfl⟩ : ∃ x, x = n := ⟨_, rfl⟩
        have h3 : s.data[p]? = some d := by rw [HS.out, h1, h2]
        exact (Array.getElem?_eq_some_iff.1 h3).2
      have z1 : decide ((s.size : Int) ≤ (p : Int)) = false := by rw [decide_eq_false_iff_not]; omega
      have z1' : decide (s.size ≤ p) = false := by rw [decide_eq_false_iff_not]; omega
      have d256 := d.toNat_lt
      have HR := hid hr
      clear hr
      by_cases d0 : d = 0
      · subst d0
        by_cases hr0 : r = []
        · subst hr0
          have hl0 : labS n = some L := by rw [LB.out, HR.out, labS_root]; simp
          have z2 : ((p : Int) != (s.size : Int) - 1) = false := by simp at hlen; simp; omega
          by_cases h255 : 255 < n.length
          · have HL := hid (labels_long hl0 h255)
            have z3 : decide ((255 : Int) < (s.size : Int)) = true := by rw [decide_eq_true_iff]; omega
            have z3' : decide (255 < s.size) = true := by rw [decide_eq_true_iff]; omega
            clear hsz hl0
            go_wp2_with fail
            go_ret2
            rw [HL.out]
            exact ⟨none, 0, rfl, hnil _, XX.out⟩
          · have HL := hid (labels_ok hl0 (by omega))
            have z3 : decide ((255 : Int) < (s.size : Int)) = false := by rw [decide_eq_false_iff_not]; omega
            have z3' : decide (255 < s.size) = false := by rw [decide_eq_false_iff_not]; omega
            clear hsz hl0
            go_wp2_with fail
            go_ret2
            rw [HL.out]
            exact ⟨A, c, rfl, OW.out, XX.out⟩
        · have hl0 := labels_none (n := n) (by rw [LB.out, HR.out, labS_zero hr0]; rfl)
          have HL := hid hl0
          have hr1 : 1 ≤ r.length := by
            rcases r with _ | ⟨x, r⟩
            · exact absurd rfl hr0
            · simp
          have z2 : ((p : Int) != (s.size : Int) - 1) = true := by simp; omega
          clear hsz hl0
          go_wp2_with fail
          go_ret2
          rw [HL.out]
          exact ⟨none, 0, rfl, hnil _, XX.out⟩
      · have z3' : (d.toNat == 0) = false := by
          rw [beq_eq_false_iff_ne]; intro e; exact d0 (by rw [← UInt8.toNat_inj]; exact e)
        have z3 : ((d.toNat : Int) == 0) = false := by rw [beq_eq_false_iff_ne] at z3' ⊢; omega
        by_cases hbad : 63 < d.toNat ∨ r.length < d.toNat
        · have hl0 := labels_none (n := n) (by rw [LB.out, HR.out, labS_bad d0 hbad]; rfl)
          have HL := hid hl0
          by_cases c63 : 63 < d.toNat
          · have z4 : decide ((63 : Int) < (d.toNat : Int)) = true := by rw [decide_eq_true_iff]; omega
            clear hsz hl0
            go_wp2_with fail
            go_ret2
            rw [HL.out]
            exact ⟨none, 0, rfl, hnil _, XX.out⟩
          · have z4 : decide ((63 : Int) < (d.toNat : Int)) = false := by rw [decide_eq_false_iff_not]; omega
            have z5 : decide ((s.size : Int) < (p : Int) + 1 + (d.toNat : Int)) = true := by rw [decide_eq_true_iff]; omega
            clear hsz hl0
            go_wp2_with fail
            go_ret2
            rw [HL.out]
            exact ⟨none, 0, rfl, hnil _, XX.out⟩
        · have z4 : decide ((63 : Int) < (d.toNat : Int)) = false := by rw [decide_eq_false_iff_not]; omega
          have z5 : decide ((s.size : Int) < (p : Int) + 1 + (d.toNat : Int)) = false := by rw [decide_eq_false_iff_not]; omega
          have he1 : s.extract (p + 1) (p + 1 + d.toNat) = str (r.take d.toNat) := by
            have hd1 : n.drop (p + 1) = r := by rw [← List.drop_drop, HR.out]; rfl
            rw [HS.out]; apply ByteArray.ext; simp [str]
            rw [← hd1, List.take_drop]
          have hsl : p + 1 + d.toNat ≤ s.size := by omega
          have hsi : (p : Int) + 1 + (d.toNat : Int) ≤ (s.size : Int) := by omega
          have hLn : L.length ≤ 2000000 := by omega
          have hbz := XX.out.size
          have ow : OwnG okS wr w.heap.size 9 1 A L.length c (L.map strV) := OW.out
          have HD := hid d0
          clear hsz z3' d0
          go_wp2_with (at_builtin; go_must (refine wpList_append_1' rfl (.tmp 28) (.tmp 37) 28 rfl w.heap.size 9 k0 (.string ⟨#[]⟩) 16 Try.underlying28 ki kz0 kz1 kz2 rfl ⟨_, rfl⟩ (fun _ h => h.one) rfl ow (.string (str (r.take d.toNat))) (by rfl) ⟨_, rfl⟩ (by omega) (by unfold maxLen; omega) hbz ?_; intro A4 c4 w4 o4 g4 x4 n4))
          have hlb : Hid (labS n = (labS (n.drop (p + 1 + d.toNat))).map ((L ++ [r.take d.toNat]) ++ ·)) := by
            refine hid ?_
            have hd1 : n.drop (p + 1) = r := by rw [← List.drop_drop, HR.out]; rfl
            rw [LB.out, HR.out, labS_go HD.out (by omega) (by omega), ← List.drop_drop, hd1, Option.map_map]
            congr 1
            funext x
            simp
          refine ⟨⟨L ++ [r.take d.toNat], A4, c4, p + 1 + d.toNat, by simp, by simp, by have := HSZ.out; omega, by simp; omega, hlb, hid ?_, hid (Below.trans XX.out x4)⟩, ?_⟩
          · unfold OwnS
            rw [List.map_append, show (L ++ [r.take d.toNat]).length = L.length + 1 from by simp]
            exact o4
          · have := HSZ.out
            simp [intOf]
            omega

theorem ref_check (n : Bs) (w : World) (hn : n.length ≤ 2000000) :
    Calls Try.prog 48 #[.string (str n)] w fun e w' => e = .returned (.int .i64 (checkS n)) ∧ Ext w w' := by
  have C := hid (ref_labels n w hn)
  obtain ⟨R, hR⟩ : ∃ R, R = labelsS n := ⟨_, rfl⟩
  have hc : checkS n = R.2 := by rw [hR]; rfl
  rw [← hR] at C
  rw [hc]
  clear hc hR
  obtain ⟨Ls, e⟩ := R
  simp only at C ⊢
  go_enter Try.func48, Try.ntmps48
  go_wp2_with fail
  (with_reducible refine C.out.mono ?_)
  rintro ee w1 ⟨A, c, rfl, ho, x⟩
  go_wp2_with fail
  go_ret
  exact ⟨rfl, x⟩
end Go.Proofs.Ytcddfenhkljpeaa

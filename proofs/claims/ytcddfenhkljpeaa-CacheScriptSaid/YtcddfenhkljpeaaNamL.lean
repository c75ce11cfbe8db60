import Derived.Test.YtcddfenhkljpeaaCsC
import Derived.Test.YtcddfenhkljpeaaKStr
import Derived.Test.YtcddfenhkljpeaaCsA
import Derived.BigQuiet
/- name.Lower, and the document's: the lower form of any bytes. -/
namespace Go.Proofs.Ytcddfenhkljpeaa
open Go.BK Go.RowKit Go.BK.NM
set_option linter.unusedVariables false

/-- Bytes of a text's own, at the head of a block: read and written. -/
def MB (w : World) (g : Nat) (l : List UInt8) : Prop := g < w.heap.size ∧ (∀ j u, l[j]? = some u → w.cell? ⟨g, j, none⟩ = some (u8v u)) ∧ ∀ j, j < l.length → w.frozen? ⟨g, j, none⟩ = false
theorem conv_mb {P : Program} (w : World) (l : List UInt8) (src dst e : TypeId) (hs : P.underlying src = some .string) (hd : P.underlying dst = some (.slice e)) (he : P.underlying e = some (.int .u8)) (hl : l.length ≤ 2000000) :
    ∃ c w', (convert src dst (.string (str l))).run P w = .ok (.slice (some ⟨w.heap.size, 0, none⟩) l.length c) w' ∧ MB w' w.heap.size l ∧ l.length ≤ c ∧ c ≤ maxLen ∧ Ext w w' := by
  have hr := Lib.run_convert_string_bytes (P := P) w src dst e (str l) hs hd he
  rw [str_size] at hr
  have hn := Lib.bytesWorld_at_new w e (str l)
  have hsz : w.heap.size < (Lib.bytesWorld w e (str l)).heap.size := (Array.getElem?_eq_some_iff.1 hn).1
  have hd : ((str l).data.map fun b => Value.int .u8 b.toNat) = (l.map u8v).toArray := by
    apply Array.ext'
    simp [str]
  have hcs : l.length ≤ (Lib.bytesCells w e (str l)).size := by
    unfold Lib.bytesCells
    rw [hd]
    simp
  refine ⟨_, _, hr, ⟨hsz, fun j u hj => ?_, fun j hj => ?_⟩, grownCap_ge _ _ _ _, grownCap_le_maxLen _ _ _ _ (by unfold maxLen; omega), ⟨rfl, rfl, rfl, Nat.le_of_lt hsz, fun k hk => Lib.bytesWorld_at_old w e (str l) k hk⟩⟩
  · unfold World.cell?
    simp only [hn]
    obtain ⟨hjl, hju⟩ := List.getElem?_eq_some_iff.1 hj
    show (Lib.bytesCells w e (str l))[j]? = some (u8v u)
    unfold Lib.bytesCells
    rw [hd, Array.getElem?_append_left (by simpa using hjl), List.getElem?_toArray]
    simp [hj]
  · unfold World.frozen?
    simp only [hn]
    simp
    omega
theorem MB.set {w : World} {g : Nat} {l : List UInt8} (h : MB w g l) {k : Nat} (hk : k < l.length) (c : UInt8) : MB (w.setCell ⟨g, k, none⟩ (u8v c)) g (l.set k c) := by
  refine ⟨by simpa using h.1, fun j u hj => ?_, fun j hj => by rw [World.frozen?_setCell]; exact h.2.2 j (by simpa using hj)⟩
  rw [List.getElem?_set] at hj
  split at hj
  · rename_i e
    subst e
    first | (rw [if_pos hk] at hj) | skip
    cases hj
    exact World.cell?_setCell_same' _ _ _ (by rw [h.2.1 k _ (List.getElem?_eq_getElem hk)]; rfl)
  · rename_i e
    rw [World.cell?_setCell_other _ _ _ _ (fun e2 => e (by injection e2))]
    exact h.2.1 j u hj
theorem MB.rd {w : World} {g c : Nat} {l : List UInt8} (h : MB w g l) (h1 : l.length ≤ c) (h2 : c ≤ maxLen) : Rd w (some ⟨g, 0, none⟩) c l :=
  ⟨by simp, h1, h2, fun _ => ⟨g, 0, rfl, h.1, fun j u hj => by
    rw [List.getElem?_map, Option.map_eq_some_iff] at hj
    obtain ⟨v, hv, rfl⟩ := hj
    rw [Nat.zero_add]
    exact h.2.1 j v hv⟩⟩

/-- The first k bytes lowered. -/
def lowK (k : Nat) (l : List UInt8) : List UInt8 := (l.take k).map lowB ++ l.drop k
theorem lowK_len (k : Nat) (l : List UInt8) : (lowK k l).length = l.length := by simp [lowK]; omega
theorem lowK_all (l : List UInt8) : lowK l.length l = lower l := by simp [lowK, lower]
theorem lowK_at {k : Nat} {l : List UInt8} (h : k < l.length) : (lowK k l)[k]? = some l[k] := by
  unfold lowK
  rw [List.getElem?_append_right (by simp; omega)]
  simp
  rw [Nat.min_eq_left (by omega), Nat.sub_self, Nat.add_zero, List.getElem?_eq_getElem h]
theorem lowK_set {k : Nat} {l : List UInt8} (h : k < l.length) : (lowK k l).set k (lowB l[k]) = lowK (k + 1) l := by
  apply List.ext_getElem?
  intro j
  rw [List.getElem?_set]
  unfold lowK
  by_cases hj : k = j
  · subst hj
    rw [if_pos rfl, if_pos (by simp; omega), List.getElem?_append_left (by simp; omega)]
    simp [h]
  · rw [if_neg hj]
    rcases Nat.lt_or_ge j k with h1 | h1
    · rw [List.getElem?_append_left (by simp; omega), List.getElem?_append_left (by simp; omega)]
      simp [h1, Nat.lt_succ_of_lt h1]
    · rw [List.getElem?_append_right (by simp; omega), List.getElem?_append_right (by simp; omega)]
      simp only [List.length_map, List.length_take, List.getElem?_drop, Nat.min_eq_left (Nat.le_of_lt h), Nat.min_eq_left (Nat.succ_le_of_lt h)]
      congr 1
      omega
theorem low_up {c : UInt8} (h : 65 ≤ c.toNat ∧ c.toNat ≤ 90) : (lowB c).toNat = c.toNat + 32 := by
  unfold lowB
  rw [if_pos ⟨by rw [UInt8.le_iff_toNat_le]; exact h.1, by rw [UInt8.le_iff_toNat_le]; exact h.2⟩, UInt8.toNat_add]
  have : (32 : UInt8).toNat = 32 := rfl
  omega
theorem low_no {c : UInt8} (h : ¬ (65 ≤ c.toNat ∧ c.toNat ≤ 90)) : lowB c = c := by
  unfold lowB
  rw [if_neg]
  rintro ⟨h1, h2⟩
  rw [UInt8.le_iff_toNat_le] at h1 h2
  exact h ⟨h1, h2⟩

set_option maxHeartbeats 2000000 in
theorem ref_lower (n : List UInt8) (w : World) (hn : n.length ≤ 2000000) :
    Calls Try.prog 50 #[.string (str n)] w fun e w' => e = .returned (.string (str (lower n))) ∧ Ext w w' := by
  obtain ⟨c, w2, hcv, mb, h1, h2, x2⟩ := conv_mb (P := Try.prog) w n 9 33 5 Try.underlying9 Try.underlying33 Try.underlying5 hn
  obtain ⟨g, hg⟩ : ∃ g, g = w.heap.size := ⟨_, rfl⟩
  have hgw : w.heap.size ≤ g := by omega
  rw [← hg] at hcv mb
  have M2 := hid mb
  have X2 := hid x2
  have hc9 : c ≤ 9223372036854775807 := by unfold maxLen at h2; omega
  have hn9 : n.length ≤ 9223372036854775807 := by omega
  clear hg mb x2
  go_enter Try.func50, Try.ntmps50
  go_wp2_with fail
  go_loopw [4] (fun i wr => ∃ k : Nat, k ≤ n.length ∧ i = .int .i64 k ∧ Hid (MB wr g (lowK k n)) ∧ Hid (Below w.heap.size w wr)) (fun i _ => n.length - (intOf i).toNat)
  case atStart => exact ⟨0, Nat.zero_le _, rfl, hid (by simpa [lowK] using M2.out), X2⟩
  case round =>
    obtain ⟨k, hk, rfl, MM, BB⟩ := hrel
    by_cases hlt : k < n.length
    · have hcell := MM.out.2.1 k _ (lowK_at hlt)
      have hfz := MM.out.2.2 k (by rw [lowK_len]; exact hlt)
      have hst := hid (MM.out.set (k := k) (by rw [lowK_len]; exact hlt) (lowB n[k]))
      rw [lowK_set hlt] at hst
      have hi1 : (k : Int) < (n.length : Int) := by omega
      obtain ⟨d, hd⟩ : ∃ d, d = n[k] := ⟨_, rfl⟩
      rw [← hd] at hcell hst
      have HD := hid hd
      have d256 := d.toNat_lt
      clear hd
      by_cases hu : 65 ≤ d.toNat ∧ d.toNat ≤ 90
      · have z1 : decide ((65 : Int) ≤ (d.toNat : Int)) = true := by rw [decide_eq_true_iff]; omega
        have z2 : decide ((d.toNat : Int) ≤ 90) = true := by rw [decide_eq_true_iff]; omega
        have hlu := hid (low_up hu)
        obtain ⟨hu1, hu2⟩ := hu
        go_wp2_with fail
        refine ⟨⟨k + 1, by omega, by go_num, hid ?_, hid ?_⟩, by simp [intOf]; omega⟩
        · have e : Value.int .u8 ((d.toNat : Int) + 32) = u8v (lowB d) := by unfold u8v; rw [hlu.out]; simp
          rw [e]
          exact hst.out
        · exact Below.grown BB.out (grown_of_set (grown_refl wr (some g)) (.inl rfl) k _) BB.out.size (fun b hb => by cases hb; exact hgw)
      · have hln := hid (low_no hu)
        have hm : Hid (MB wr g (lowK (k + 1) n)) := by
          refine hid ?_
          have e : lowK (k + 1) n = lowK k n := by
            rw [← lowK_set hlt, ← HD.out, hln.out]
            apply List.ext_getElem?
            intro j
            rw [List.getElem?_set]
            split
            · rename_i ej
              subst ej
              rw [if_pos (by rw [lowK_len]; exact hlt), lowK_at hlt, HD.out]
            · rfl
          rw [e]
          exact MM.out
        clear hst hln
        by_cases h65 : 65 ≤ d.toNat
        · have z1 : decide ((65 : Int) ≤ (d.toNat : Int)) = true := by rw [decide_eq_true_iff]; omega
          have z2 : decide ((d.toNat : Int) ≤ 90) = false := by rw [decide_eq_false_iff_not]; omega
          clear hu
          go_wp2_with fail
          exact ⟨⟨k + 1, by omega, by go_num, hm, BB⟩, by simp [intOf]; omega⟩
        · have z1 : decide ((65 : Int) ≤ (d.toNat : Int)) = false := by rw [decide_eq_false_iff_not]; omega
          clear hu
          go_wp2_with fail
          exact ⟨⟨k + 1, by omega, by go_num, hm, BB⟩, by simp [intOf]; omega⟩
    · obtain rfl : k = n.length := by omega
      have hrd := MM.out.rd (c := c) (by rw [lowK_len]; exact h1) h2
      have hcv2 := run_convert_rd (P := Try.prog) hrd 33 5 Try.underlying33 Try.underlying5 9 Try.underlying9
      rw [lowK_len, lowK_all] at hcv2
      clear hlt hk hrd
      go_wp2_with fail
      go_ret
      exact ⟨rfl, BB.out⟩
set_option maxRecDepth 100000 in
set_option maxHeartbeats 2000000 in
theorem lower_in (n : List UInt8) (w : World) (hn : n.length ≤ 2000000) :
    Calls Try.prog 36 #[.string (str n)] w fun e w' => e = .returned (.string (str (lower n))) ∧ Ext w w' := by
  obtain ⟨c, w2, hcv, mb, h1, h2, x2⟩ := conv_mb (P := Try.prog) w n 9 33 5 Try.underlying9 Try.underlying33 Try.underlying5 hn
  obtain ⟨g, hg⟩ : ∃ g, g = w.heap.size := ⟨_, rfl⟩
  have hgw : w.heap.size ≤ g := by omega
  rw [← hg] at hcv mb
  have M2 := hid mb
  have X2 := hid x2
  have hc9 : c ≤ 9223372036854775807 := by unfold maxLen at h2; omega
  have hn9 : n.length ≤ 9223372036854775807 := by omega
  clear hg mb x2
  go_enter Try.func36, Try.ntmps36
  go_wp2_with fail
  go_loopw [10] (fun i wr => ∃ k : Nat, k ≤ n.length ∧ i = .int .i64 k ∧ Hid (MB wr g (lowK k n)) ∧ Hid (Below w.heap.size w wr)) (fun i _ => n.length - (intOf i).toNat)
  case atStart => exact ⟨0, Nat.zero_le _, rfl, hid (by simpa [lowK] using M2.out), X2⟩
  case round =>
    obtain ⟨k, hk, rfl, MM, BB⟩ := hrel
    by_cases hlt : k < n.length
    · have hcell := MM.out.2.1 k _ (lowK_at hlt)
      have hfz := MM.out.2.2 k (by rw [lowK_len]; exact hlt)
      have hst := hid (MM.out.set (k := k) (by rw [lowK_len]; exact hlt) (lowB n[k]))
      rw [lowK_set hlt] at hst
      have hi1 : (k : Int) < (n.length : Int) := by omega
      obtain ⟨d, hd⟩ : ∃ d, d = n[k] := ⟨_, rfl⟩
      rw [← hd] at hcell hst
      have HD := hid hd
      have d256 := d.toNat_lt
      clear hd
      by_cases hu : 65 ≤ d.toNat ∧ d.toNat ≤ 90
      · have z1 : decide ((65 : Int) ≤ (d.toNat : Int)) = true := by rw [decide_eq_true_iff]; omega
        have z2 : decide ((d.toNat : Int) ≤ 90) = true := by rw [decide_eq_true_iff]; omega
        have hlu := hid (low_up hu)
        obtain ⟨hu1, hu2⟩ := hu
        go_wp2_with fail
        refine ⟨⟨k + 1, by omega, by go_num, hid ?_, hid ?_⟩, by simp [intOf]; omega⟩
        · have e : Value.int .u8 ((d.toNat : Int) + 97 - 65) = u8v (lowB d) := by unfold u8v; rw [hlu.out]; congr 1; omega
          rw [e]
          exact hst.out
        · exact Below.grown BB.out (grown_of_set (grown_refl wr (some g)) (.inl rfl) k _) BB.out.size (fun b hb => by cases hb; exact hgw)
      · have hln := hid (low_no hu)
        have hm : Hid (MB wr g (lowK (k + 1) n)) := by
          refine hid ?_
          have e : lowK (k + 1) n = lowK k n := by
            rw [← lowK_set hlt, ← HD.out, hln.out]
            apply List.ext_getElem?
            intro j
            rw [List.getElem?_set]
            split
            · rename_i ej
              subst ej
              rw [if_pos (by rw [lowK_len]; exact hlt), lowK_at hlt, HD.out]
            · rfl
          rw [e]
          exact MM.out
        clear hst hln
        by_cases h65 : 65 ≤ d.toNat
        · have z1 : decide ((65 : Int) ≤ (d.toNat : Int)) = true := by rw [decide_eq_true_iff]; omega
          have z2 : decide ((d.toNat : Int) ≤ 90) = false := by rw [decide_eq_false_iff_not]; omega
          clear hu
          go_wp2_with fail
          exact ⟨⟨k + 1, by omega, by go_num, hm, BB⟩, by simp [intOf]; omega⟩
        · have z1 : decide ((65 : Int) ≤ (d.toNat : Int)) = false := by rw [decide_eq_false_iff_not]; omega
          clear hu
          go_wp2_with fail
          exact ⟨⟨k + 1, by omega, by go_num, hm, BB⟩, by simp [intOf]; omega⟩
    · obtain rfl : k = n.length := by omega
      have hrd := MM.out.rd (c := c) (by rw [lowK_len]; exact h1) h2
      have hcv2 := run_convert_rd (P := Try.prog) hrd 33 5 Try.underlying33 Try.underlying5 9 Try.underlying9
      rw [lowK_len, lowK_all] at hcv2
      clear hlt hk hrd
      go_wp2_with fail
      go_ret
      exact ⟨rfl, BB.out⟩
end Go.Proofs.Ytcddfenhkljpeaa

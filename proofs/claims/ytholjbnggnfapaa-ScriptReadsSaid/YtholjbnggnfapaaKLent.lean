/- A part of the contracts of the small functions that the statements share. -/
import Derived.Test.YtholjbnggnfapaaKSame
namespace Go.Proofs.Ytholjbnggnfapaa
open Go.BK Go.RowKit
set_option linter.unusedVariables false

/-- The marks behind a list that is lent. -/
def mk_ (i : Nat) : UInt8 := UInt8.ofNat (160 + i % 90)
def lentL (l : List UInt8) : List UInt8 := l ++ [mk_ l.length, mk_ (l.length + 1), mk_ (l.length + 2)]
theorem lentL_length (l : List UInt8) : (lentL l).length = l.length + 3 := by simp [lentL]
theorem mk_i (k : Nat) : IntKind.u8.wrap (160 + (k : Int) % 90) = ((mk_ k).toNat : Int) := by
  rw [IntKind.wrap_u8]
  simp [mk_]
theorem lentL_get (l : List UInt8) (k : Nat) (h1 : l.length ≤ k) (h2 : k < l.length + 3) : (lentL l)[k]? = some (mk_ k) := by
  unfold lentL
  rw [List.getElem?_append_right h1]
  rcases (show k = l.length ∨ k = l.length + 1 ∨ k = l.length + 2 from by omega) with rfl | rfl | rfl
  · simp
  · simp [show l.length + 1 - l.length = 1 from by omega]
  · simp [show l.length + 2 - l.length = 2 from by omega]
theorem lentL_step (l fl : List UInt8) (k : Nat) (h1 : l.length ≤ k) (h2 : k < l.length + 3) (hf : fl.length = l.length + 3) (ht : fl.take k = (lentL l).take k) :
    (fl.set k (mk_ k)).take (k + 1) = (lentL l).take (k + 1) := by
  rw [List.take_add_one, List.take_add_one, lentL_get l k h1 h2, List.take_set_of_le (Nat.le_refl k), ht, List.getElem?_set_self (by omega)]
theorem lent_e1 (l : List UInt8) : (l.map u8v).take (Nat.min l.length (l.length + 3)) ++ (List.replicate (l.length + 3) (Value.int .u8 0)).drop (Nat.min l.length (l.length + 3)) = (l ++ List.replicate 3 (0 : UInt8)).map u8v := by
  rw [show Nat.min l.length (l.length + 3) = l.length from Nat.min_eq_left (by omega), List.take_of_length_le (by simp), List.drop_replicate, show l.length + 3 - l.length = 3 from by omega, List.map_append]; rfl
theorem lentL_take (l : List UInt8) : (lentL l).take l.length = l := by simp [lentL]
set_option maxHeartbeats 1000000 in
/-- LentBytes: a copy with room behind it, in which marks stand. -/
theorem lent_bytes {A : Option Addr} {c : Nat} {l : List UInt8} {w : World} (h : Rd w A c l) (hl : l.length ≤ 140737488355328) :
    Calls Try.prog 9 #[.slice A l.length c] w fun e w' => ∃ g, e = .returned (.slice (some ⟨g, 0, none⟩) l.length (l.length + 3)) ∧ Own w' w.heap.size 5 (some ⟨g, 0, none⟩) (l.length + 3) (lentL l) ∧ Ext w w' := by
  obtain ⟨i0, hi, hz0, hz1, hz2⟩ := info_parts info_u8
  go_enter Try.func9, Try.ntmps9
  go_wp2_with (first | (at_make; refine wpList_make_g (ok := isU8) (n := l.length + 3) (m := l.length + 3) rfl (.tmp 7) (.tmp 7) 22 rfl w.heap.size 5 i0 (.int .u8 0) 1 Try.underlying22 hi hz0 hz1 hz2 rfl ⟨0, rfl⟩ .i64 .i64 rfl rfl (by omega) (by omega) (Nat.le_refl _) (by omega) (by unfold maxLen; omega) (Nat.le_refl _) ?_; intro w1 hown1 hext1 hsz1; have hr1 : RdG w1 1 A l.length c (l.map u8v) := RdG.ext h hext1) | ((with_reducible show wpList _ _ _ (⟨some 11, _, _, _, _, _⟩ :: _) _ _); refine wpList_copy_g rfl (.tmp 9) (.tmp 10) 22 rfl w.heap.size 5 i0 Try.underlying22 hi hz1 (fun _ h => h.one) rfl hown1 rfl hr1 (isU8_map l) ?_; intro w2 hown2 hgr2))
  have hb0 : Below w.heap.size w w2 := Below.grown hext1 hgr2 (by omega) (by simp)
  have hown3 : Own w2 w.heap.size 5 (some ⟨w.heap.size, 0, none⟩) (l.length + 3) (l ++ List.replicate 3 (0 : UInt8)) := by
    unfold Own; rw [← lent_e1, show (l ++ List.replicate 3 (0 : UInt8)).length = l.length + 3 from by simp]; exact hown2
  clear hown1 hown2 hgr2 hr1 hext1
  go_loopw [4] (fun i wr => ∃ k : Nat, l.length ≤ k ∧ k ≤ l.length + 3 ∧ i = .int .i64 k ∧ (∃ fl : List UInt8, fl.length = l.length + 3 ∧ Own wr w.heap.size 5 (some ⟨w.heap.size, 0, none⟩) (l.length + 3) fl ∧ fl.take k = (lentL l).take k) ∧ Below w.heap.size w wr) (fun i _ => l.length + 3 - (intOf i).toNat)
  case atStart => exact ⟨l.length, Nat.le_refl _, by omega, rfl, ⟨_, by simp, hown3, by rw [lentL_take]; simp⟩, hb0⟩
  case round =>
    clear hown3 hb0
    obtain ⟨k, hk0, hk, rfl, ⟨fl, hfl, hown, htk⟩, hb⟩ := hrel
    by_cases hlt : k < l.length + 3
    · have hcell : wr.cell? ⟨w.heap.size, k, none⟩ = some (.int .u8 (fl.getD k 0).toNat) := by
        obtain ⟨b', o, h1, _, h3⟩ := (Own.rd hown).at_ (k := k) (by omega)
        injection h1 with h1; injection h1 with h1 h2; subst h1; subst h2
        simpa using h3
      have hfz : wr.frozen? ⟨w.heap.size, k, none⟩ = false := OwnG.frozen hown rfl k
      have hmk := mk_i k
      have hstep := OwnG.set (k := k) hown hlt (v := u8v (mk_ k)) ⟨_, rfl⟩ rfl
      have hbs := Below.setCell hb (p := ⟨w.heap.size, k, none⟩) (Nat.le_refl _) (u8v (mk_ k))
      have hts := hid (lentL_step l fl k hk0 hlt hfl htk)
      have Hfl := hid hfl
      have Htk := hid htk
      clear hfl htk
      go_wp2
      go_roundw
      case rel => exact ⟨k + 1, by omega, by omega, by go_num, ⟨fl.set k (mk_ k), by simp [Hfl.out], by unfold Own; rw [List.length_set, List.map_set]; exact hstep, hts.out⟩, hbs⟩
      case measure => simp [intOf]; omega
    · have hk3 : k = l.length + 3 := by omega
      have hfin : fl = lentL l := by
        have := htk
        rw [List.take_of_length_le (by omega), List.take_of_length_le (by rw [lentL_length]; omega)] at this
        exact this
      subst hfin
      clear hk3 htk hfl
      go_wp2
      go_ret
      exact ⟨w.heap.size, rfl, hown, hb⟩
theorem lent_rd {w : World} {g base : Nat} {l : List UInt8} (h : Own w base 5 (some ⟨g, 0, none⟩) (l.length + 3) (lentL l)) : Rd w (some ⟨g, 0, none⟩) (l.length + 3) l := by
  have := OwnG.rd (OwnG.shrink h l.length (by rw [lentL_length]; omega))
  unfold Rd
  rw [← List.map_take, show l.length * 1 = l.length from by omega, lentL_take] at this
  exact this
set_option maxHeartbeats 1000000 in
/-- KeptBytes, of a list that was lent and kept. -/
theorem kept_bytes {g : Nat} {B : Option Addr} {cb base : Nat} {l : List UInt8} {w : World} (h : Own w base 5 (some ⟨g, 0, none⟩) (l.length + 3) (lentL l)) (hB : Rd w B cb l) (hl : l.length ≤ 140737488355328) :
    Calls Try.prog 14 #[.slice (some ⟨g, 0, none⟩) l.length (l.length + 3), .slice B l.length cb] w fun e w' => e = .returned (.bool true) ∧ Ext w w' := by
  have s1 : IntKind.i64.wrap ((l.length : Int) + 3) = (l.length : Int) + 3 := IntWalk.i64_in _ (by omega)
  have s2 : (0 : Int) ≤ (l.length : Int) + 3 := by omega
  have s3 : ((l.length : Int) + 3).toNat = l.length + 3 := by omega
  have s4 : ¬ (l.length + 3 = 0) := by omega
  have s5 : ((l.length : Int) == (l.length : Int)) = true := by simp
  have s6 : (l.length : Int) + 3 ≤ ((l.length + 3 : Nat) : Int) := by omega
  go_enter Try.func14, Try.ntmps14
  go_wp2_with fail
  refine wp_region_any (by kernel_rfl) ?_
  change wpAny _ _ _ _ _ _ _ (World.drew _)
  refine wpAny_take (i := 0) (v := (.slice (some ⟨g, 0, none⟩) l.length (l.length + 3))) rfl (by kernel_rfl) (by kernel_rfl) (by kernel_rfl) (fun _ _ _ h => h) (Or.inl ⟨by kernel_rfl, fun _ => by go_simp⟩) ?_
  refine wpAny_take (i := 1) (v := (.int .i64 l.length)) rfl (by kernel_rfl) (by kernel_rfl) (by kernel_rfl) (fun _ _ _ h => h) (Or.inl ⟨by kernel_rfl, fun _ => by go_simp⟩) ?_
  refine wpAny_take (i := 2) (v := (.slice B l.length cb)) rfl (by kernel_rfl) (by kernel_rfl) (by kernel_rfl) (fun _ _ _ h => h) (Or.inl ⟨by kernel_rfl, fun _ => by go_simp⟩) ?_
  refine wpAny_take (i := 3) (v := (.int .i64 l.length)) rfl (by kernel_rfl) (by kernel_rfl) (by kernel_rfl) (fun _ _ _ h => h) (Or.inl ⟨by kernel_rfl, fun _ => by go_simp⟩) ?_
  refine wpAny_take (i := 4) (v := (.bool true)) rfl (by kernel_rfl) (by kernel_rfl) (by kernel_rfl) (fun _ _ _ h => h) (Or.inl ⟨by kernel_rfl, fun _ => by go_simp⟩) ?_
  refine wpAny_take (i := 5) (v := (.bool true)) rfl (by kernel_rfl) (by kernel_rfl) (by kernel_rfl) (fun _ _ _ h => h) (Or.inl ⟨by kernel_rfl, fun _ => by go_simp⟩) ?_
  refine wpAny_take (i := 6) (v := (.slice (some ⟨g, 0, none⟩) l.length (l.length + 3))) rfl (by kernel_rfl) (by kernel_rfl) (by kernel_rfl) (fun _ _ _ h => h) (Or.inl ⟨by kernel_rfl, fun _ => by go_simp⟩) ?_
  refine wpAny_take (i := 7) (v := (.slice (some ⟨g, 0, none⟩) l.length (l.length + 3))) rfl (by kernel_rfl) (by kernel_rfl) (by kernel_rfl) (fun _ _ _ h => h) (Or.inl ⟨by kernel_rfl, fun _ => by go_simp⟩) ?_
  refine wpAny_take (i := 8) (v := (.int .i64 ((l.length + 3 : Nat) : Int))) rfl (by kernel_rfl) (by kernel_rfl) (by kernel_rfl) (fun _ _ _ h => h) (Or.inl ⟨by kernel_rfl, fun _ => by go_simp⟩) ?_
  refine wpAny_take (i := 9) (v := (.slice (some ⟨g, 0, none⟩) (l.length + 3) (l.length + 3))) rfl (by kernel_rfl) (by kernel_rfl) (by kernel_rfl) (fun _ _ _ h => h) (Or.inl ⟨by kernel_rfl, fun _ => by go_simp⟩) ?_
  refine wpAny_take (i := 10) (v := (.slice B l.length cb)) rfl (by kernel_rfl) (by kernel_rfl) (by kernel_rfl) (fun _ _ _ h => h) (Or.inl ⟨by kernel_rfl, fun _ => by go_simp⟩) ?_
  refine wpAny_take (i := 12) (v := (.slice B l.length cb)) rfl (by kernel_rfl) (by kernel_rfl) (by kernel_rfl) (fun _ _ _ h => h) (Or.inl ⟨by kernel_rfl, fun _ => by go_simp⟩) ?_
  refine wpAny_take (i := 13) (v := (.int .i64 l.length)) rfl (by kernel_rfl) (by kernel_rfl) (by kernel_rfl) (fun _ _ _ h => h) (Or.inl ⟨by kernel_rfl, fun _ => by go_simp⟩) ?_
  refine wpAny_take (i := 14) (v := (.int .i64 ((l.length + 3 : Nat) : Int))) rfl (by kernel_rfl) (by kernel_rfl) (by kernel_rfl) (fun _ _ _ h => h) (Or.inl ⟨by kernel_rfl, fun _ => by go_simp⟩) ?_
  refine wpAny_ready (rs := [11]) (by kernel_rfl) (by simp) ?_
  refine AllReady.cons rfl (fun K hK => ?_) AllReady.nil
  go_simp
  refine (lent_bytes (l := l) (c := cb) (w := w.drew) hB hl).mono ?_
  rintro e w1 ⟨g1, rfl, hown1, hext1⟩
  refine hK _ _ ?_
  clear hK K
  refine wpAny_take (i := 15) (v := (.slice (some ⟨g1, 0, none⟩) (l.length + 3) (l.length + 3))) rfl (by kernel_rfl) (by kernel_rfl) (by kernel_rfl) (fun _ _ _ h => h) (Or.inl ⟨by kernel_rfl, fun _ => by go_simp⟩) ?_
  refine wpAny_ready (rs := [16]) (by kernel_rfl) (by simp) ?_
  refine AllReady.cons rfl (fun K hK => ?_) AllReady.nil
  go_simp
  have hE : Ext w w1 := Below.trans ((Below.refl _ _).drew) hext1
  refine (same_bytes_n (a := lentL l) (b := lentL l) (Own.ext h hE).rd hown1.rd (lentL_length l) (lentL_length l)).mono ?_
  rintro e w2 ⟨rfl, rfl⟩
  refine hK _ _ ?_
  clear hK K
  refine wpAny_take (i := 17) (v := (.bool (lentL l == lentL l))) rfl (by kernel_rfl) (by kernel_rfl) (by kernel_rfl) (fun _ _ _ h => h) (Or.inl ⟨by kernel_rfl, fun _ => by go_simp⟩) ?_
  refine wpAny_ready (rs := [18]) (by kernel_rfl) (by simp) ?_
  refine AllReady.cons rfl (fun K hK => ?_) AllReady.nil
  go_simp
  refine hK _ _ ?_
  clear hK K
  refine wpAny_done (by kernel_rfl) ?_ _
  go_wp2
  go_ret
  exact ⟨ret_bool (by simp), hE⟩

end Go.Proofs.Ytholjbnggnfapaa

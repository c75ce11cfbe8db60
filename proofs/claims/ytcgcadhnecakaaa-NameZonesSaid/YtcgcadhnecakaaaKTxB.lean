/- The small functions on lists of texts that the statements share: LentTexts, OverTexts, KeptTexts. -/
import Derived.Test.YtcgcadhnecakaaaKTxA
import Derived.IntWalk
namespace Go.Proofs.Ytcgcadhnecakaaa
open Go.BK Go.RowKit
set_option linter.unusedVariables false

def lentB : List UInt8 := [108, 101, 110, 116]
def lentT (L : List (List UInt8)) : List (List UInt8) := L ++ [lentB, lentB, lentB]
theorem lentT_length (L : List (List UInt8)) : (lentT L).length = L.length + 3 := by simp [lentT]
theorem lentT_get (L : List (List UInt8)) (k : Nat) (h1 : L.length ≤ k) (h2 : k < L.length + 3) : (lentT L)[k]? = some lentB := by
  unfold lentT
  rw [List.getElem?_append_right h1]
  rcases (show k = L.length ∨ k = L.length + 1 ∨ k = L.length + 2 from by omega) with rfl | rfl | rfl
  · simp
  · simp [show L.length + 1 - L.length = 1 from by omega]
  · simp [show L.length + 2 - L.length = 2 from by omega]
theorem lentT_step (L F : List (List UInt8)) (k : Nat) (h1 : L.length ≤ k) (h2 : k < L.length + 3) (hf : F.length = L.length + 3) (ht : F.take k = (lentT L).take k) :
    (F.set k lentB).take (k + 1) = (lentT L).take (k + 1) := by
  rw [List.take_add_one, List.take_add_one, lentT_get L k h1 h2, List.take_set_of_le (Nat.le_refl k), ht, List.getElem?_set_self (by omega)]
theorem lentT_e1 (L : List (List UInt8)) : (tvs L).take (Nat.min L.length (L.length + 3)) ++ (List.replicate (L.length + 3) (Value.string ⟨#[]⟩)).drop (Nat.min L.length (L.length + 3)) = tvs (L ++ List.replicate 3 []) := by
  rw [show Nat.min L.length (L.length + 3) = L.length from Nat.min_eq_left (by omega), List.take_of_length_le (by simp [tvs]), List.drop_replicate, show L.length + 3 - L.length = 3 from by omega, tvs_append]; rfl
theorem lentT_take (L : List (List UInt8)) : (lentT L).take L.length = L := by simp [lentT]
theorem tvs_set (L : List (List UInt8)) (k : Nat) (s : List UInt8) : (tvs L).set k (.string (str s)) = tvs (L.set k s) := by simp [tvs]

set_option maxHeartbeats 2000000 in
/-- LentTexts: a copy with room behind it, in which marks stand. -/
theorem lent_texts {A : Option Addr} {c : Nat} {L : List (List UInt8)} {w : World} (h : RdG w 1 A L.length c (tvs L)) (hl : L.length ≤ 1000000) :
    Calls Try.prog 10 #[.slice A L.length c] w fun e w' => ∃ g, e = .returned (.slice (some ⟨g, 0, none⟩) L.length (L.length + 3)) ∧ OwnG isT w' w.heap.size 9 1 (some ⟨g, 0, none⟩) (L.length + 3) (L.length + 3) (tvs (lentT L)) ∧ Ext w w' := by
  obtain ⟨i0, hi, hz0, hz1, hz2⟩ := info_parts info_t
  go_enter Try.func10, Try.ntmps10
  go_wp2_with (first | (at_make; refine wpList_make_g (ok := isT) (n := L.length + 3) (m := L.length + 3) rfl (.tmp 7) (.tmp 7) 22 rfl w.heap.size 9 i0 (.string ⟨#[]⟩) 16 Try.underlying22 hi hz0 hz1 hz2 rfl ⟨_, rfl⟩ .i64 .i64 rfl rfl (by omega) (by omega) (Nat.le_refl _) (by omega) (by unfold maxLen; omega) (Nat.le_refl _) ?_; intro w1 hown1 hext1 hsz1; have hr1 : RdG w1 1 A L.length c (tvs L) := RdG.ext h hext1) | ((with_reducible show wpList _ _ _ (⟨some 11, _, _, _, _, _⟩ :: _) _ _); refine wpList_copy_g rfl (.tmp 9) (.tmp 10) 22 rfl w.heap.size 9 i0 Try.underlying22 hi hz1 (fun _ h => h.one) rfl hown1 rfl hr1 (isT_tvs L) ?_; intro w2 hown2 hgr2))
  have hb0 : Below w.heap.size w w2 := Below.grown hext1 hgr2 (by omega) (by simp)
  have hown3 : OwnG isT w2 w.heap.size 9 1 (some ⟨w.heap.size, 0, none⟩) (L.length + 3) (L.length + 3) (tvs (L ++ List.replicate 3 [])) := by
    rw [← lentT_e1]; exact hown2
  clear hown1 hown2 hgr2 hr1 hext1
  go_loopw [4] (fun i wr => ∃ k : Nat, L.length ≤ k ∧ k ≤ L.length + 3 ∧ i = .int .i64 k ∧ Hid (∃ F : List (List UInt8), F.length = L.length + 3 ∧ OwnG isT wr w.heap.size 9 1 (some ⟨w.heap.size, 0, none⟩) (L.length + 3) (L.length + 3) (tvs F) ∧ F.take k = (lentT L).take k) ∧ Hid (Below w.heap.size w wr)) (fun i _ => L.length + 3 - (intOf i).toNat)
  case atStart => exact ⟨L.length, Nat.le_refl _, by omega, rfl, hid ⟨_, by simp, hown3, by rw [lentT_take]; simp⟩, hid hb0⟩
  case round =>
    clear hown3 hb0
    obtain ⟨k, hk0, hk, rfl, HF, HB⟩ := hrel
    obtain ⟨F, hfl, hown, htk⟩ := HF.out
    by_cases hlt : k < L.length + 3
    · have hcell : wr.cell? ⟨w.heap.size, k, none⟩ = some (.string (str (F.getD k []))) := by
        obtain ⟨b', o, h1, _, h3⟩ := tvs_at (L := F) (c := L.length + 3) (by rw [hfl]; exact hown.rd) (k := k) (by omega)
        injection h1 with h1; injection h1 with h1 h2; subst h1; subst h2
        simpa using h3
      have hfz : wr.frozen? ⟨w.heap.size, k, none⟩ = false := OwnG.frozen hown rfl k
      have hstep := hid (OwnG.set (k := k) hown hlt (v := .string (str lentB)) ⟨_, rfl⟩ rfl)
      have hbs := hid (Below.setCell HB.out (p := ⟨w.heap.size, k, none⟩) (Nat.le_refl _) (.string (str lentB)))
      have hts := hid (lentT_step L F k hk0 hlt hfl htk)
      have Hfl := hid hfl
      clear hfl htk hown
      go_wp2_with fail
      exact ⟨⟨k + 1, by omega, by omega, by go_num, hid ⟨F.set k lentB, by simp [Hfl.out], by rw [← tvs_set]; exact hstep.out, hts.out⟩, hbs⟩, by simp [intOf]; omega⟩
    · have hk3 : k = L.length + 3 := by omega
      have hfin : F = lentT L := by
        have := htk
        rw [List.take_of_length_le (by omega), List.take_of_length_le (by rw [lentT_length]; omega)] at this
        exact this
      subst hfin
      clear hk3 htk hfl
      go_wp2_with fail
      go_ret
      exact ⟨w.heap.size, rfl, hown, HB.out⟩
theorem lent_rdt {ok : Value → Prop} {w : World} {g base : Nat} {L : List (List UInt8)} (h : OwnG ok w base 9 1 (some ⟨g, 0, none⟩) (L.length + 3) (L.length + 3) (tvs (lentT L))) : RdG w 1 (some ⟨g, 0, none⟩) L.length (L.length + 3) (tvs L) := by
  have := OwnG.rd (OwnG.shrink h L.length (by omega))
  have e : (tvs (lentT L)).take (L.length * 1) = tvs L := by
    unfold tvs
    rw [← List.map_take, Nat.mul_one, lentT_take]
  rw [e] at this
  exact this

set_option maxHeartbeats 2000000 in
/-- OverTexts: all is written over, the spare room too; nothing else is. -/
theorem over_texts {A : Option Addr} {c base n : Nat} {xs : List Value} {w : World} (h : OwnG okT w base 9 1 A n c xs) (hn : n ≤ 1000000) :
    Calls Try.prog 19 #[.slice A n c] w fun e w' => e = .returned (.tuple #[]) ∧ w.grownBy w' (blk A) := by
  obtain ⟨full, hfull, hfl, htk, hfok⟩ := OwnG.full h
  have hc := (OwnG.rd h).c_le
  have hnc := (OwnG.rd h).cap.1
  rcases Nat.eq_zero_or_pos c with h0 | h0
  · subst h0
    have hn0 : n = 0 := by omega
    subst hn0
    clear h hfull hfl htk hfok
    go_enter Try.func19, Try.ntmps19
    go_wp2
    refine wp_loop_rounds 1 ?_
    rw [rounds_succ]
    go_wp2
    go_end0
    exact ⟨rfl, grown_refl _ _⟩
  · obtain ⟨g, rfl, hbg, hg⟩ := hfull.head h0
    have hc0 : ¬ c = 0 := by omega
    have HFU := hid hfull
    have HFK := hid (And.intro hfl hfok)
    clear h htk hfl hfok hfull
    go_enter Try.func19, Try.ntmps19
    go_wp2_with fail
    go_loopw [3] (fun i wr => ∃ k : Nat, k ≤ c ∧ i = .int .i64 k ∧ Hid (∃ F : List Value, F.length = c ∧ OwnG isT wr base 9 1 (some ⟨g, 0, none⟩) c c F ∧ ∀ j, k ≤ j → F[j]? = full[j]?) ∧ Hid (w.grownBy wr (some g))) (fun i _ => c - (intOf i).toNat)
    case atStart =>
      refine ⟨0, Nat.zero_le _, rfl, hid ⟨full, by simpa using HFK.out.1, ?_, fun _ _ => rfl⟩, hid (grown_refl _ _)⟩
      rcases HFU.out with ⟨h, _⟩ | ⟨g', f', hA, hb, hgg, hf, hn', hcc, ht, hok⟩
      · cases h
      · refine .inr ⟨g', f', hA, hb, hgg, hf, hn', hcc, ht, fun u hu => ?_⟩
        obtain ⟨s, hs, _⟩ := hok u hu
        exact ⟨s, hs⟩
    case round =>
      obtain ⟨k, hk, rfl, HF, HG⟩ := hrel
      obtain ⟨F, hF, hown, hsame⟩ := HF.out
      by_cases hlt : k < c
      · obtain ⟨s, hs, hs9⟩ : ∃ s : ByteArray, F[k]? = some (.string s) ∧ s.size ≤ 1073741824 := by
          have hfl := HFK.out.1
          have hkf : k < full.length := by omega
          obtain ⟨s, h1, h2⟩ := HFK.out.2 _ (List.getElem_mem hkf)
          exact ⟨s, by rw [hsame k (Nat.le_refl k), List.getElem?_eq_getElem hkf, h1], h2⟩
        have hcell : wr.cell? ⟨g, k, none⟩ = some (.string s) := by
          obtain ⟨b', o, h1, _, h3⟩ := RdG.at_ hown.rd (k := k) hlt
          injection h1 with h1; injection h1 with h1 h2; subst h1; subst h2
          rw [List.getD_eq_getElem?_getD, hs] at h3
          simpa using h3
        have hfz : wr.frozen? ⟨g, k, none⟩ = false := OwnG.frozen hown rfl k
        have hstep := hid (fun v => OwnG.set (k := k) hown hlt (v := .string v) ⟨v, rfl⟩ rfl)
        have hgs := hid (fun v => grown_of_set (g := g) HG.out (.inl rfl) k (.string v))
        have HS := hid hsame
        have HFL := hid hF
        have hki : (k : Int) < (c : Int) := by omega
        clear hs hsame hown hF
        go_wp2_with fail
        refine ⟨⟨k + 1, by omega, by go_num, hid ⟨_, ?_, hstep.out _, fun j hj => ?_⟩, hid (hgs.out _)⟩, by simp [intOf]; omega⟩
        · rw [List.length_set]; exact HFL.out
        · rw [List.getElem?_set_ne (by omega)]; exact HS.out j (by omega)
      · obtain rfl : k = c := by omega
        clear hlt hk hown hsame hF
        go_wp2_with fail
        go_end0
        exact ⟨rfl, HG.out⟩

theorem same_texts_n {A B : Option Addr} {ca cb n m : Nat} {a b : List (List UInt8)} {w : World} (ha : RdG w 1 A n ca (tvs a)) (hb : RdG w 1 B m cb (tvs b)) (hn : a.length = n) (hm : b.length = m) (h9 : a.length ≤ 1000000) :
    Calls Try.prog 15 #[.slice A n ca, .slice B m cb] w fun e w' => e = .returned (.bool (decide (a = b))) ∧ Ext w w' := by
  subst hn; subst hm; exact same_texts ha hb h9

set_option maxHeartbeats 2000000 in
/-- KeptTexts, of a list that was lent and kept. -/
theorem kept_texts {ok : Value → Prop} {g : Nat} {B : Option Addr} {cb base : Nat} {L : List (List UInt8)} {w : World} (h : OwnG ok w base 9 1 (some ⟨g, 0, none⟩) (L.length + 3) (L.length + 3) (tvs (lentT L))) (hB : RdG w 1 B L.length cb (tvs L)) (hl : L.length ≤ 100000) :
    Calls Try.prog 20 #[.slice (some ⟨g, 0, none⟩) L.length (L.length + 3), .slice B L.length cb] w fun e w' => e = .returned (.bool true) ∧ Ext w w' := by
  have s1 : IntKind.i64.wrap ((L.length : Int) + 3) = (L.length : Int) + 3 := IntWalk.i64_in _ (by omega)
  have s2 : (0 : Int) ≤ (L.length : Int) + 3 := by omega
  have s3 : ((L.length : Int) + 3).toNat = L.length + 3 := by omega
  have s4 : ¬ (L.length + 3 = 0) := by omega
  have s5 : ((L.length : Int) == (L.length : Int)) = true := by simp
  have s6 : (L.length : Int) + 3 ≤ ((L.length + 3 : Nat) : Int) := by omega
  go_enter Try.func20, Try.ntmps20
  go_wp2_with fail
  refine wp_region_any (by kernel_rfl) ?_
  change wpAny _ _ _ _ _ _ _ (World.drew _)
  refine wpAny_take (i := 0) (v := (.slice (some ⟨g, 0, none⟩) L.length (L.length + 3))) rfl (by kernel_rfl) (by kernel_rfl) (by kernel_rfl) (fun _ _ _ h => h) (Or.inl ⟨by kernel_rfl, fun _ => by go_simp⟩) ?_
  refine wpAny_take (i := 1) (v := (.int .i64 L.length)) rfl (by kernel_rfl) (by kernel_rfl) (by kernel_rfl) (fun _ _ _ h => h) (Or.inl ⟨by kernel_rfl, fun _ => by go_simp⟩) ?_
  refine wpAny_take (i := 2) (v := (.slice B L.length cb)) rfl (by kernel_rfl) (by kernel_rfl) (by kernel_rfl) (fun _ _ _ h => h) (Or.inl ⟨by kernel_rfl, fun _ => by go_simp⟩) ?_
  refine wpAny_take (i := 3) (v := (.int .i64 L.length)) rfl (by kernel_rfl) (by kernel_rfl) (by kernel_rfl) (fun _ _ _ h => h) (Or.inl ⟨by kernel_rfl, fun _ => by go_simp⟩) ?_
  refine wpAny_take (i := 4) (v := (.bool true)) rfl (by kernel_rfl) (by kernel_rfl) (by kernel_rfl) (fun _ _ _ h => h) (Or.inl ⟨by kernel_rfl, fun _ => by go_simp⟩) ?_
  refine wpAny_take (i := 5) (v := (.bool true)) rfl (by kernel_rfl) (by kernel_rfl) (by kernel_rfl) (fun _ _ _ h => h) (Or.inl ⟨by kernel_rfl, fun _ => by go_simp⟩) ?_
  refine wpAny_take (i := 6) (v := (.slice (some ⟨g, 0, none⟩) L.length (L.length + 3))) rfl (by kernel_rfl) (by kernel_rfl) (by kernel_rfl) (fun _ _ _ h => h) (Or.inl ⟨by kernel_rfl, fun _ => by go_simp⟩) ?_
  refine wpAny_take (i := 7) (v := (.slice (some ⟨g, 0, none⟩) L.length (L.length + 3))) rfl (by kernel_rfl) (by kernel_rfl) (by kernel_rfl) (fun _ _ _ h => h) (Or.inl ⟨by kernel_rfl, fun _ => by go_simp⟩) ?_
  refine wpAny_take (i := 8) (v := (.int .i64 ((L.length + 3 : Nat) : Int))) rfl (by kernel_rfl) (by kernel_rfl) (by kernel_rfl) (fun _ _ _ h => h) (Or.inl ⟨by kernel_rfl, fun _ => by go_simp⟩) ?_
  refine wpAny_take (i := 9) (v := (.slice (some ⟨g, 0, none⟩) (L.length + 3) (L.length + 3))) rfl (by kernel_rfl) (by kernel_rfl) (by kernel_rfl) (fun _ _ _ h => h) (Or.inl ⟨by kernel_rfl, fun _ => by go_simp⟩) ?_
  refine wpAny_take (i := 10) (v := (.slice B L.length cb)) rfl (by kernel_rfl) (by kernel_rfl) (by kernel_rfl) (fun _ _ _ h => h) (Or.inl ⟨by kernel_rfl, fun _ => by go_simp⟩) ?_
  refine wpAny_take (i := 12) (v := (.slice B L.length cb)) rfl (by kernel_rfl) (by kernel_rfl) (by kernel_rfl) (fun _ _ _ h => h) (Or.inl ⟨by kernel_rfl, fun _ => by go_simp⟩) ?_
  refine wpAny_take (i := 13) (v := (.int .i64 L.length)) rfl (by kernel_rfl) (by kernel_rfl) (by kernel_rfl) (fun _ _ _ h => h) (Or.inl ⟨by kernel_rfl, fun _ => by go_simp⟩) ?_
  refine wpAny_take (i := 14) (v := (.int .i64 ((L.length + 3 : Nat) : Int))) rfl (by kernel_rfl) (by kernel_rfl) (by kernel_rfl) (fun _ _ _ h => h) (Or.inl ⟨by kernel_rfl, fun _ => by go_simp⟩) ?_
  refine wpAny_ready (rs := [11]) (by kernel_rfl) (by simp) ?_
  refine AllReady.cons rfl (fun K hK => ?_) AllReady.nil
  go_simp
  refine (lent_texts (L := L) (c := cb) (w := w.drew) hB (by omega)).mono ?_
  rintro e w1 ⟨g1, rfl, hown1, hext1⟩
  refine hK _ _ ?_
  clear hK K
  refine wpAny_take (i := 15) (v := (.slice (some ⟨g1, 0, none⟩) (L.length + 3) (L.length + 3))) rfl (by kernel_rfl) (by kernel_rfl) (by kernel_rfl) (fun _ _ _ h => h) (Or.inl ⟨by kernel_rfl, fun _ => by go_simp⟩) ?_
  refine wpAny_ready (rs := [16]) (by kernel_rfl) (by simp) ?_
  refine AllReady.cons rfl (fun K hK => ?_) AllReady.nil
  go_simp
  have hE : Ext w w1 := Below.trans ((Below.refl _ _).drew) hext1
  refine (same_texts_n (a := lentT L) (b := lentT L) (OwnG.ext h hE).rd hown1.rd (lentT_length L) (lentT_length L) (by rw [lentT_length]; omega)).mono ?_
  rintro e w2 ⟨rfl, x2⟩
  refine hK _ _ ?_
  clear hK K
  refine wpAny_take (i := 17) (v := (.bool (decide (lentT L = lentT L)))) rfl (by kernel_rfl) (by kernel_rfl) (by kernel_rfl) (fun _ _ _ h => h) (Or.inl ⟨by kernel_rfl, fun _ => by go_simp⟩) ?_
  refine wpAny_ready (rs := [18]) (by kernel_rfl) (by simp) ?_
  refine AllReady.cons rfl (fun K hK => ?_) AllReady.nil
  go_simp
  refine hK _ _ ?_
  clear hK K
  refine wpAny_done (by kernel_rfl) ?_ _
  go_wp2
  go_ret
  exact ⟨ret_bool (by simp), ext_trans hE x2⟩
end Go.Proofs.Ytcgcadhnecakaaa

/- Layer 21: the document's Drop. -/
import Derived.Test.YtkogagpahidenaaDrrW
namespace Go.Proofs.Ytkogagpahidenaa
open Go.BK Go.BK.DR Go.RowKit Go.Maps
set_option linter.unusedVariables false
section
variable {U : Nat → Prop} {w w' : World} {g c : Nat} {p : Par} {A : Option Addr} {R R1 R2 : List Ln} {r : Ln}
set_option maxHeartbeats 1000000 in
theorem rdrop_no (h : RfR w g p A c R) (a : Int) (hno : ∀ r ∈ R, r.cl.n ≠ a) : Calls Try.prog 24 #[.pointer (some ⟨g, 0, none⟩), .int .i64 a] w fun e w' => e = .returned (.slice none 0 0) ∧ w = w' := by
  have C := hid (rat_no h a hno)
  clear h hno
  go_enter Try.func24, Try.ntmps24
  go_wp2_with fail
  refine C.out.mono ?_
  rintro e _ ⟨rfl, rfl⟩
  go_wp2_with fail
  go_ret
  exact ⟨rfl, rfl⟩
def RdRel (w : World) (m : Nat) (L : List (Int × Int)) (o i : Value) (wr : World) : Prop :=
  ∃ k A' c', k ≤ m ∧ i = .int .i64 (k : Nat) ∧ o = .slice A' k c' ∧ OwnG isI wr w.heap.size 3 1 A' k c' (intsV ((L.take k).map Prod.snd)) ∧ Ext w wr
set_option maxHeartbeats 4000000 in
set_option maxRecDepth 100000 in
theorem rdrop_yes (h : RfR w g p A c (R1 ++ r :: R2)) (hno : ∀ s ∈ R1, s.cl.n ≠ r.cl.n) (hL : r.cl.L ≠ []) (hlen : (R1 ++ r :: R2).length ≤ 1024) (hl6 : r.cl.L.length ≤ 64) :
    Calls Try.prog 24 #[.pointer (some ⟨g, 0, none⟩), .int .i64 r.cl.n] w fun e w' => ∃ B d, e = .returned (.slice B r.cl.L.length d) ∧ OwnG isI w' w.heap.size 3 1 B r.cl.L.length d (intsV (r.cl.L.map Prod.snd)) ∧ ToP w w' g p (R1 ++ r :: R2) (R1 ++ R2) := by
  have C2 := rat_yes h hno
  obtain ⟨_, _, _, _, c4, cf⟩ := h.cells
  have hn9 := h.ring.n_le
  have hc9 := h.ring.c_le
  have hnc := h.ring.cap.1
  have H := hid h
  obtain ⟨b, o, rfl, hb, hcc⟩ := h.spot (by simp; omega)
  obtain ⟨_, _, _, x3⟩ := hcc R1.length (by simp)
  rw [getD_mid] at x3
  have its := (h.its r (by simp)).rd
  obtain ⟨b2, o2, hA0, hb2, hic⟩ := its.2.2.2 (List.length_pos_iff.2 hL)
  rw [hA0] at x3
  obtain ⟨cc, hcc0⟩ : ∃ cc, r.cc = cc := ⟨_, rfl⟩
  obtain ⟨L, hL0⟩ : ∃ L, r.cl.L = L := ⟨_, rfl⟩
  rw [hL0] at hl6 hic x3 ⊢
  obtain ⟨l, hl0⟩ : ∃ l, L.length = l := ⟨_, rfl⟩
  rw [hcc0, hl0] at x3
  rw [hl0] at hl6 ⊢
  have HIC := hid (fun (W : World) (X : Ext w W) (k : Nat) (hk : k < L.length) => (X.cell (p := ⟨b2, o2 + (k * 2 + 1), none⟩) hb2).trans (hic _ _ (cellsI_at hk).2))
  obtain ⟨n, hn⟩ : ∃ n, (R1 ++ r :: R2).length = n := ⟨_, rfl⟩
  obtain ⟨m, hm⟩ : ∃ m, R1.length = m := ⟨_, rfl⟩
  have hmn : m < n := by rw [← hn, ← hm]; simp
  rw [hn] at c4 hn9 hlen hnc
  rw [hm] at x3 C2
  have i1 : (m : Int) < (n : Int) := by omega
  have C2 := hid C2
  obtain ⟨i0, hi, hz0, hz1, hz2⟩ := info_parts info_int
  obtain ⟨j0, hj, jz0, jz1, jz2⟩ := info_parts info_line
  have HMN := hid (And.intro hn (And.intro hm (And.intro hcc0 hl0)))
  have KS := hid (fun (W : World) (X : Ext w W) => (⟨(X.cell (p := ⟨g, 4, none⟩) h.top.lt).trans c4, (X.cell (p := ⟨b, o + m * 4 + 3, none⟩) hb).trans x3⟩ : W.cell? ⟨g, 4, none⟩ = some (.slice (some ⟨b, o, none⟩) n c) ∧ W.cell? ⟨b, o + m * 4 + 3, none⟩ = some (.slice (some ⟨b2, o2, none⟩) l cc)))
  have TAKE := hid (fun (k : Nat) (hk : k < l) => (show L.take (k + 1) = L.take k ++ [L.getD k (0, 0)] from by
    rw [List.take_succ_eq_append_getElem (by omega)]
    simp [List.getD, show k < L.length from by omega]))
  clear h hno hL hcc hn hm hcc0 hl0 its hic hL0 hA0 c4 x3 cf
  go_enter Try.func24, Try.ntmps24
  go_wp2_with fail
  refine C2.out.mono ?_
  rintro e _ ⟨rfl, rfl⟩
  go_wp2_with fail
  go_loopw [6, 7] (fun o i wr => RdRel w l L o i wr) (fun _ i _ => l - (intOf i).toNat)
  case atStart => exact ⟨0, none, 0, Nat.zero_le _, rfl, rfl, OwnG.nil _ _ _ _ _, Below.refl _ _⟩
  case round =>
    obtain ⟨k, A', c', hk, rfl, rfl, ow, hx⟩ := hrel
    obtain ⟨y4, y3⟩ := KS.out wr hx
    by_cases hlt : k < l
    · have j1 : (k : Int) < (l : Int) := by omega
      have y1 := HIC.out wr hx k (by rw [HMN.out.2.2.2]; exact hlt)
      rw [← Nat.add_assoc] at y1
      obtain ⟨x, hxx⟩ : ∃ x, (L.getD k (0, 0)).2 = x := ⟨_, rfl⟩
      rw [hxx] at y1
      have HXX := hid hxx
      have HX := hid hx
      have hsz := hx.size
      clear hxx hx
      go_wp2_with (at_builtin; go_must (refine wpList_append_1' rfl (.tmp 26) (.tmp 39) 22 rfl w.heap.size 3 i0 (.int .i64 0) 8 Try.underlying22 hi hz0 hz1 hz2 rfl ⟨0, rfl⟩ (fun _ h => h.one) rfl ow (.int .i64 x) (by rfl) ⟨_, rfl⟩ (by omega) (by unfold maxLen; omega) hsz ?_); intro A5 c5 w5 o5 g5 x5 n5; have X5 := hid (below_of_grown HX.out hsz g5 (fun g hg => (ow.lt g hg).1)); have O5 := hid o5; clear o5 g5 x5 ow hsz)
      go_roundw
      case rel =>
        refine ⟨k + 1, A5, c5, by omega, by go_num, rfl, ?_, X5.out⟩
        rw [TAKE.out k hlt, List.map_append]
        simp only [List.map_cons, List.map_nil]
        rw [HXX.out]
        simpa [intsV] using O5.out
      case measure => simp [intOf]; omega
    · obtain rfl : l = k := by omega
      have j1 : ¬ (l : Int) < (l : Int) := by omega
      obtain ⟨wz, hwz⟩ : ∃ x, x = wr := ⟨_, rfl⟩
      subst hwz
      have OW := hid ow
      have HX := hid hx
      have K1 := hid (fun (W : World) (X : Ext wz W) => (KS.out W (ext_trans hx X)).1)
      have hz := hx.size
      have wi : IntKind.i64.wrap ((m : Int) + 1) = (m : Int) + 1 := IntWalk.i64_in _ (by omega)
      have b1 : (0 : Int) ≤ (m : Int) := by omega
      have b2' : (m : Int) ≤ (n : Int) := by omega
      have b3 : (n : Int) ≤ (c : Int) := by omega
      have b4 : (m : Int) + 1 ≤ (n : Int) := by omega
      have b5 : (0 : Int) ≤ (m : Int) + 1 := by omega
      have b6 : (m : Int) ≤ (c : Int) := by omega
      have b7 : ((m : Int) + 1).toNat = m + 1 := by omega
      have b8 : m + 1 ≤ n := hmn
      have b9 : n ≤ c := hnc
      have RT1 := hid (fun (W : World) (X : Ext wz W) => (show RdG W 4 (some ⟨b, o, none⟩) m c (cellsN R1) from by
        have h1 := ((H.out.ring.ext hx).ext X).cut (i := 0) (j := m) (Nat.zero_le _) (by rw [HMN.out.1]; omega) (A' := some ⟨b, o, none⟩) (fun _ => by simp [Addr.add_lit])
        rw [cellsN_take, Nat.zero_mul, List.drop_zero, Nat.sub_zero, Nat.sub_zero, ← HMN.out.2.1, List.take_left] at h1
        rw [← HMN.out.2.1]
        exact h1))
      have RT2 := hid (fun (W : World) (X : Ext wz W) (A' : Option Addr) (hA : c = m + 1 ∨ A' = some ⟨b, o + (m + 1) * 4, none⟩) => (show RdG W 4 A' (n - (m + 1)) (c - (m + 1)) (cellsN R2) from by
        have h1 := ((H.out.ring.ext hx).ext X).cut (i := m + 1) (j := n) (by omega) (by rw [HMN.out.1]; exact Nat.le_refl _) (A' := A') (fun hlt => by
          rcases hA with hA | hA
          · omega
          · rw [hA]; simp [Addr.add_lit])
        rw [cellsN_take, List.take_of_length_le (by rw [HMN.out.1]; exact Nat.le_refl _), cellsN_drop] at h1
        have e : (R1 ++ r :: R2).drop (m + 1) = R2 := by
          rw [← HMN.out.2.1, ← List.drop_drop, List.drop_left]
          rfl
        rw [e] at h1
        exact h1))
      have xe : Ext wz (wz.alloc (.cells #[] 75)).drew := ext_trans (ext_alloc _ _) (ext_drew _)
      have XE := hid xe
      have OE : Hid (OwnG isOne (wz.alloc (.cells #[] 75)).drew wz.heap.size 75 4 (some ⟨wz.heap.size, 0, none⟩) 0 0 []) := hid ((own_none wz _ _ _ (Nat.le_refl _)).ext (ext_drew _))
      have FIN : Hid (∀ A8 c8 w8, OwnG isOne w8 wz.heap.size 75 4 A8 (m + (n - (m + 1))) c8 (cellsN R1 ++ cellsN R2) → Ext wz w8 → OwnG isI (w8.setCell ⟨g, 4, none⟩ (.slice A8 (m + (n - (m + 1))) c8)) w.heap.size 3 1 A' l c' (intsV (L.map Prod.snd)) ∧ ToP w (w8.setCell ⟨g, 4, none⟩ (.slice A8 (m + (n - (m + 1))) c8)) g p (R1 ++ r :: R2) (R1 ++ R2)) := hid (fun A8 c8 w8 o8 x8 => (by
        obtain ⟨hn, hm, hcc0, hl0⟩ := HMN.out
        have h9 := H.out.ext hx
        rw [← cellsN_append] at o8
        have hlen : (R1 ++ R2).length = m + (n - (m + 1)) := by
          rw [← hn]
          simp
          omega
        obtain ⟨rf, og⟩ := h9.place (V := fun _ => False) (Shy.of_ext x8) id hlen o8 (fun q hq => ⟨h9.its q (by rw [List.mem_append] at hq; rw [List.mem_append, List.mem_cons]; exact hq.elim .inl (fun h => .inr (.inr h))), fun _ _ => id⟩) rfl
        refine ⟨?_, A8, c8, rf, og.mono hz, ?_⟩
        · have e : L.take l = L := List.take_of_length_le (by omega)
          rw [e] at ow
          exact (ow.ext x8).far (p := ⟨g, 4, none⟩) H.out.top.lt _
        · exact ((Shy.of_ext (ext_trans hx x8)) : Shy (fun j => j = g) w w8).set (b := g) (fun _ => rfl) 4 _))
      have hgg : g < wz.heap.size := Nat.lt_of_lt_of_le H.out.top.lt hz
      clear ow hx
      go_wp2_with fail
      rcases Decidable.em (c = m + 1) with hq | hq
      · have hq1 : (c = m + 1) = True := eq_true hq
        have HQ := hid hq
        clear hq
        go_region_law ((first | (refine step_append_g rfl (.tmp 42) (.tmp 48) 70 (by rfl) wz.heap.size 75 j0 (.agg #[.int .i64 0, .int .i64 0, .bool false, .slice none 0 0]) 4 48 Try.underlying70 hj jz0 jz1 jz2 (by rfl) (by decide) (by intro u hu; simp [Value.cells] at hu; rcases hu with rfl | rfl | rfl | rfl <;> exact rfl) (fun _ h => h) (by rfl) OE.out (by rfl) (RT1.out _ XE.out) (cellsN_one _) (by omega) (by unfold maxLen; omega) XE.out.size ?_; intro A6 c6 w6 o6 g6 n6; simp only [Nat.zero_add, List.nil_append] at o6 ⊢; have O6 := hid o6; have X : Hid (Ext wz w6) := hid (below_of_grown XE.out XE.out.size g6 (fun g hg => (by simp at hg; omega))); have z4 := K1.out _ X.out; have zg := Nat.lt_of_lt_of_le hgg X.out.size; clear o6 g6 n6) | (refine step_append_g rfl (.tmp 49) (.tmp 56) 70 (by rfl) wz.heap.size 75 j0 (.agg #[.int .i64 0, .int .i64 0, .bool false, .slice none 0 0]) 4 48 Try.underlying70 hj jz0 jz1 jz2 (by rfl) (by decide) (by intro u hu; simp [Value.cells] at hu; rcases hu with rfl | rfl | rfl | rfl <;> exact rfl) (fun _ h => h) (by rfl) O6.out (by rfl) (RT2.out _ X.out _ (.inl HQ.out)) (cellsN_one _) (by omega) (by unfold maxLen; omega) X.out.size ?_; intro A8 c8 w8 o8 g8 n8; have X8 : Hid (Ext wz w8) := hid (below_of_grown X.out X.out.size g8 (fun g hg => (O6.out.lt g hg).1)); have O8 := hid o8; clear o8 g8 n8; clear X; have X := X8; have y4 := K1.out _ X8.out; have yf : ∀ i, w8.frozen? ⟨g, i, none⟩ = false := ((H.out.ext (ext_trans HX.out X8.out)).cells).2.2.2.2.2)))
        all_goals
          go_wp2
          go_ret
          exact ⟨_, _, rfl, FIN.out _ _ _ O8.out X8.out⟩
      · have hq1 : (c = m + 1) = False := eq_false hq
        clear hq
        go_region_law ((first | (refine step_append_g rfl (.tmp 42) (.tmp 48) 70 (by rfl) wz.heap.size 75 j0 (.agg #[.int .i64 0, .int .i64 0, .bool false, .slice none 0 0]) 4 48 Try.underlying70 hj jz0 jz1 jz2 (by rfl) (by decide) (by intro u hu; simp [Value.cells] at hu; rcases hu with rfl | rfl | rfl | rfl <;> exact rfl) (fun _ h => h) (by rfl) OE.out (by rfl) (RT1.out _ XE.out) (cellsN_one _) (by omega) (by unfold maxLen; omega) XE.out.size ?_; intro A6 c6 w6 o6 g6 n6; simp only [Nat.zero_add, List.nil_append] at o6 ⊢; have O6 := hid o6; have X : Hid (Ext wz w6) := hid (below_of_grown XE.out XE.out.size g6 (fun g hg => (by simp at hg; omega))); have z4 := K1.out _ X.out; have zg := Nat.lt_of_lt_of_le hgg X.out.size; clear o6 g6 n6) | (refine step_append_g rfl (.tmp 49) (.tmp 56) 70 (by rfl) wz.heap.size 75 j0 (.agg #[.int .i64 0, .int .i64 0, .bool false, .slice none 0 0]) 4 48 Try.underlying70 hj jz0 jz1 jz2 (by rfl) (by decide) (by intro u hu; simp [Value.cells] at hu; rcases hu with rfl | rfl | rfl | rfl <;> exact rfl) (fun _ h => h) (by rfl) O6.out (by rfl) (RT2.out _ X.out _ (.inr rfl)) (cellsN_one _) (by omega) (by unfold maxLen; omega) X.out.size ?_; intro A8 c8 w8 o8 g8 n8; have X8 : Hid (Ext wz w8) := hid (below_of_grown X.out X.out.size g8 (fun g hg => (O6.out.lt g hg).1)); have O8 := hid o8; clear o8 g8 n8; clear X; have X := X8; have y4 := K1.out _ X8.out; have yf : ∀ i, w8.frozen? ⟨g, i, none⟩ = false := ((H.out.ext (ext_trans HX.out X8.out)).cells).2.2.2.2.2)))
        all_goals
          go_wp2
          go_ret
          exact ⟨_, _, rfl, FIN.out _ _ _ O8.out X8.out⟩
end
end Go.Proofs.Ytkogagpahidenaa

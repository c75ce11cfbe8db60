/- Layer 29: events that are written over; what the examples say. -/
import Derived.Test.YtholjbnggnfapaaScrF
import Derived.Test.YtholjbnggnfapaaKOver
namespace Go.Proofs.Ytholjbnggnfapaa
open Go.BK Go.BK.SC Go.RowKit Go.Maps
set_option linter.unusedVariables false
set_option linter.unusedSimpArgs false
theorem OwnG.setc {ok : Value → Prop} {w : World} {base size n c g k : Nat} {e : TypeId} {xs : List Value} (h : OwnG ok w base e size (some ⟨g, 0, none⟩) n c xs) {v : Value} (hv : ok v) :
    OwnG ok (w.setCell ⟨g, k, none⟩ v) base e size (some ⟨g, 0, none⟩) n c (xs.set k v) := by
  rcases h with ⟨h, _⟩ | ⟨g', full, hA, hb, hg, hf, hn, hc, ht, hok⟩
  · cases h
  · injection hA with hA; injection hA with hA; subst hA
    refine .inr ⟨g, full.set k v, rfl, hb, ?_, by simp [hf], hn, hc, ?_, ?_⟩
    · simp [World.setCell, Array.getElem?_modify, hg]
    · rw [← ht, List.take_set]
    · intro u hu
      rcases List.mem_or_eq_of_mem_set hu with h | rfl
      · exact hok u h
      · exact hv
section
variable {w w' : World} {base c d m : Nat} {A : Option Addr} {e : Ev} {M : List Em}
def OvU (A : Option Addr) (M : List Em) (k : Nat) : Prop := blk A = some k ∨ ∃ m ∈ M, blk m.B = some k
def OvRel (w : World) (base m c : Nat) (A : Option Addr) (M : List Em) (iv : Value) (wr : World) : Prop :=
  ∃ j : Nat, j ≤ m ∧ iv = .int .i64 j ∧ (∃ xs, OwnG isOne wr base 34 7 A m c xs) ∧
    (∀ g, A = some ⟨g, 0, none⟩ → ∀ i, j ≤ i → i < m → wr.cell? ⟨g, i * 7 + 6, none⟩ = some (.slice (M.getD i em0).B (M.getD i em0).e.b.length (M.getD i em0).d) ∧ Own wr base 5 (M.getD i em0).B (M.getD i em0).d (M.getD i em0).e.b) ∧
    Shy (OvU A M) w wr
theorem EvL.over (h : EvL w base A c M) (hm : M.length = m) : OvRel w base m c A M (.int .i64 0) w := by
  subst hm
  refine ⟨0, Nat.zero_le _, rfl, ⟨_, h.1⟩, fun g hA i _ hi => ?_, Shy.refl _⟩
  subst hA
  obtain ⟨b, o, hA, hb, hc⟩ := h.rd.at_ (by omega)
  injection hA with hA
  injection hA with e1 e2
  subst e1; subst e2
  obtain ⟨x, hxm, hxe, _, _, _, _, _, _, x6, _⟩ := hc i hi
  rw [hxe]
  exact ⟨by simpa using x6, h.2.1 x hxm⟩
set_option maxHeartbeats 2000000 in
set_option maxRecDepth 100000 in
theorem over_events (h : EvL w base A c M) : Calls Try.prog 13 #[.slice A M.length c] w fun r w' => r = .returned (.tuple #[]) ∧ Shy (OvU A M) w w' := by
  obtain ⟨m, hm⟩ : ∃ m, M.length = m := ⟨_, rfl⟩
  have hmx : m ≤ maxLen := by rw [← hm]; exact Nat.le_trans h.rd.1.2.1 h.rd.1.2.2.1
  unfold maxLen at hmx
  have H := hid h
  have START := hid (h.over hm)
  have HM := hid hm
  rw [hm]
  clear h hm
  go_enter Try.func13, Try.ntmps13
  go_wp2_with fail
  go_loopw [2] (fun iv wr => OvRel w base m c A M iv wr) (fun iv _ => m - (intOf iv).toNat)
  case atStart => exact START.out
  case round =>
    obtain ⟨j, hj, rfl, ⟨xs, hown⟩, hcs, hs⟩ := hrel
    by_cases hlt : j < m
    · have hlt1 : j < M.length := by rw [HM.out]; exact hlt
      obtain ⟨g, hA, hg1, hg2⟩ := hown.head (by have := hown.rd.2.1; omega)
      subst hA
      obtain ⟨c6, hob⟩ := hcs g rfl j (Nat.le_refl _) hlt
      have hap : ∀ i, j < i → i < m → ∀ k, blk (M.getD i em0).B = some k → blk (M.getD j em0).B ≠ some k := fun i h1 h2 k hk e => by
        have h3 : i < M.length := by rw [HM.out]; exact h2
        rw [getD_el h3] at hk
        rw [getD_el hlt1] at e
        exact List.pairwise_iff_getElem.1 H.out.2.2.1 j i hlt1 h3 h1 k e hk
      have hag : ∀ i, i < m → blk (M.getD i em0).B ≠ some g := fun i h2 e => by
        have h3 : i < M.length := by rw [HM.out]; exact h2
        rw [getD_el h3] at e
        exact H.out.2.2.2 _ (List.getElem_mem h3) g e rfl
      have hagj := hag j hlt
      have hmem : M.getD j em0 ∈ M := by rw [getD_el hlt1]; exact List.getElem_mem hlt1
      obtain ⟨y, hy⟩ : ∃ y, M.getD j em0 = y := ⟨_, rfl⟩
      rw [hy] at c6 hob hap hagj hmem
      obtain ⟨e, B, d⟩ := y
      simp only at c6 hob hap hagj
      have C := hid (over_bytes hob)
      have OB := hid hob
      have HAP := hid hap
      have HAG := hid hag
      have HAJ := hid hagj
      have HMEM := hid hmem
      have HS := hid hs
      have HCS := hid hcs
      have HO := hid hown
      have fz := hown.frozen rfl (j * 7)
      have i1 : (j : Int) < (m : Int) := by omega
      clear hap hag hagj hob hcs hs hown hy hmem
      go_wp2_with fail
      refine C.out.mono ?_
      rintro e0 w5 ⟨rfl, g5, l', hl', o5⟩
      have G5 := hid g5
      have own5 := HO.out.grown g5 (fun b hb e => by injection hb with hb; subst hb; exact HAJ.out e.symm)
      obtain ⟨b, o, hA, _, hcc⟩ := own5.rd.2.2.2 (by omega)
      injection hA with hA
      injection hA with e1 e2
      subst e1; subst e2
      have hxl : j * 7 < xs.length := by rw [own5.rd.1]; omega
      have cz := hcc (j * 7) _ (List.getElem?_eq_getElem hxl)
      rw [Nat.zero_add] at cz
      have fz5 := own5.frozen rfl (j * 7)
      have OWN5 := hid own5
      obtain ⟨u0, hu0⟩ : ∃ u0, xs[j * 7] = u0 := ⟨_, rfl⟩
      rw [hu0] at cz
      clear g5 o5 hl' own5 hcc hxl hu0
      go_wp2_with fail
      go_roundw
      case rel =>
        have hgb : g < w.heap.size → OvU (some ⟨g, 0, none⟩) M g := fun _ => .inl rfl
        refine ⟨j + 1, by omega, by go_num, ⟨_, OwnG.setc OWN5.out (v := .int .i64 0) rfl⟩, fun g' hA' i h1 h2 => ?_, ?_⟩
        · injection hA' with hA'
          injection hA' with e1 _
          subst e1
          obtain ⟨q1, q2⟩ := HCS.out g rfl i (by omega) h2
          have q3 := (G5.out.block g hg2 (fun e => HAJ.out e.symm))
          have ss := set_shy g (j * 7) (.int .i64 0) w5
          refine ⟨?_, ?_⟩
          · have hc1 : w5.cell? ⟨g, i * 7 + 6, none⟩ = wr.cell? ⟨g, i * 7 + 6, none⟩ := World.cell?_of_block q3
            exact (World.cell?_setCell_other (w := w5) (a := ⟨g, j * 7, none⟩) (b := ⟨g, i * 7 + 6, none⟩) (v := .int .i64 0) (by intro e; injection e with _ e _; omega)).trans (hc1.trans q1)
          · exact ss.ownG (OwnG.grown q2 G5.out (fun k hk e => HAP.out i (by omega) h2 k hk e.symm)) (fun k hk e => by subst e; exact HAG.out i h2 hk)
        · refine (HS.out.grown G5.out (fun k hk _ => .inr ⟨_, HMEM.out, hk⟩)).set (b := g) hgb _ _
      case measure => simp [intOf]; omega
    · obtain rfl : j = m := by omega
      have HS := hid hs
      clear hs hcs
      go_wp2_with fail
      go_end0
      exact ⟨rfl, HS.out⟩
theorem EvL.ov_lt {k : Nat} (h : EvL w base A c M) (hk : OvU A M k) : base ≤ k ∧ k < w.heap.size := by
  rcases hk with hk | ⟨m, hm, hk⟩
  · exact h.1.lt k hk
  · exact OwnG.lt (h.2.1 m hm) k hk
end
end Go.Proofs.Ytholjbnggnfapaa

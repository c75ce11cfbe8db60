/- strings.Builder in this cut: WriteString, Len. -/
import Derived.Test.YtcgcadhnecakaaaBldA
import Derived.Test.YtcgcadhnecakaaaKStr
namespace Go.Proofs.Ytcgcadhnecakaaa
open Go.BK Go.RowKit
set_option linter.unusedVariables false

set_option maxHeartbeats 2000000 in
set_option maxRecDepth 100000 in
theorem write_string (base b : Nat) (l : List UInt8) (s : List UInt8) (w : World) (h : Bld w base b l) (hlen : l.length + s.length ≤ 140737488355328) :
    Calls Try.prog 38 #[.pointer (some ⟨b, 0, none⟩), .string (str s)] w fun e w' => (∃ v, e = .returned v) ∧ Bld w' base b (l ++ s) ∧ Shy (fun k => k = b ∨ base ≤ k) w w' := by
  obtain ⟨i0, hi, hz0, hz1, hz2⟩ := info_parts info_b8
  obtain ⟨p, A, c, hp, h⟩ := h
  have cc := hid (check_any base b p A c l w h hp)
  clear h hp
  go_enter Try.func38, Try.ntmps38
  go_wp2_with fail
  refine cc.out.mono ?_
  rintro e w1 ⟨rfl, ⟨hbk, hown, hlt, hz⟩, hs1⟩
  obtain ⟨c0, c1, cf⟩ := hbk.two
  clear cc
  have hne : some b ≠ blk A := by
    intro e
    have := (hown.lt b e.symm).1
    omega
  have HO : Hid (OwnG isU8 w1 base 5 1 A l.length c (l.map u8v)) := hid hown
  go_wp2_with ((with_reducible show wpList _ _ _ (⟨some 14, _, _, _, _, _⟩ :: _) _ _); go_must (refine wpList_append_s (by rfl) (.tmp 12) (.tmp 13) 53 9 rfl base 5 i0 Try.underlying53 Try.underlying9 hi hz0 hz1 hz2 rfl HO.out s rfl (by omega) hz ?_); intro A5 c5 w5 o5 g5 x5; have K5 := hbk.grown g5 hne; obtain ⟨d0, d1, df⟩ := K5.two)
  go_ret2
  refine ⟨⟨_, rfl⟩, ⟨_, A5, c5, .inr rfl, ?_, ?_, hlt, ?_⟩, ?_⟩
  · have := K5.set_ 1 (.slice A5 (l ++ s).length c5)
    simpa using this
  · have : BK.Own w5 base 5 A5 c5 (l ++ s) := by simpa [BK.Own] using o5
    exact this.far hlt _
  · have := g5.size
    simp only [World.setCell]
    simpa using Nat.le_trans hz this
  · refine Shy.trans (U := fun k => k = b ∨ base ≤ k) (Shy.trans (hs1.mono fun k _ hk => .inl hk) (shy_of_grown g5) fun k _ hk => .inr (hown.lt k hk).1) (shy_set 1 _) fun k _ hk => .inl hk

set_option maxHeartbeats 1000000 in
theorem bld_len (base b : Nat) (l : List UInt8) (w : World) (h : Bld w base b l) :
    Calls Try.prog 39 #[.pointer (some ⟨b, 0, none⟩)] w fun e w' => e = .returned (.int .i64 l.length) ∧ w = w' := by
  obtain ⟨p, A, c, hp, hbk, hown, hlt, hz⟩ := h
  obtain ⟨c0, c1, cf⟩ := hbk.two
  have hl := run_len_slice (P := Try.prog) w
  clear hp hbk hown
  go_enter Try.func39, Try.ntmps39
  go_wp2
  go_ret
  exact ⟨rfl, rfl⟩
theorem Bld.is {w : World} {base b : Nat} {l : List UInt8} (h : Bld w base b l) : Lib.IsBuilder 55 5 b b (Lib.byteCells l) w := by
  obtain ⟨p, A, c, hp, hb, ho, hlt, hz⟩ := h
  have key : ∃ v, w.heap[b]? = some (.cells #[p, v] 55 (0, 0)) ∧ w.ownsRow b 5 1 v (Lib.byteCells l).length (Lib.byteCells l) ∧ v.ownBlock ≠ some b := by
    refine ⟨_, hb, ?_⟩
    rcases ho with ⟨rfl, h0, rfl, h1⟩ | ⟨g, full, rfl, hbg, hg, hfl, hnc, hcm, ht, _⟩
    · have : l = [] := List.eq_nil_of_length_eq_zero h0
      subst this
      exact ⟨World.ownsRow_nil _ _ _ _, by simp [Value.ownBlock]⟩
    · refine ⟨⟨by simp [Lib.byteCells], .inr ⟨g, c, _, by simp [Lib.byteCells], by omega, hg, by simpa [Lib.byteCells] using hnc, hcm, by simp [hfl], by simpa [Lib.byteCells] using ht⟩⟩, ?_⟩
      simp [Value.ownBlock]; omega
  rcases hp with rfl | rfl
  · exact .inl ⟨Nat.le_refl _, key⟩
  · exact .inr ⟨Nat.le_refl _, key⟩
theorem bld_string (base b : Nat) (l : List UInt8) (w : World) (h : Bld w base b l) :
    Calls Try.prog 40 #[.pointer (some ⟨b, 0, none⟩)] w fun e w' => e = .returned (.string (str l)) ∧ Below b w w' :=
  Try.Builder_String_any b b l w h.is (by obtain ⟨_, _, _, _, hb, _⟩ := h; exact Nat.le_of_lt hb.lt)
end Go.Proofs.Ytcgcadhnecakaaa

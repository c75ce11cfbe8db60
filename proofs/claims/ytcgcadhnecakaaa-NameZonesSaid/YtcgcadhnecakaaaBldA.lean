/- strings.Builder in this cut: a builder in a block of its own, its bytes in another one; copyCheck, WriteByte, String. -/
import Derived.Test.YtcgcadhnecakaaaKitU
import Derived.Test.YtcgcadhnecakaaaKStep
import Derived.Test.YtcgcadhnecakaaaShelf
import Derived.Lib.Builder
namespace Go.Proofs.Ytcgcadhnecakaaa
open Go.BK Go.RowKit
set_option linter.unusedVariables false
theorem size_B : ((Try.prog.info? 55).map (·.size)) = some 2 := by kernel_rfl
theorem info_b8 : (Try.prog.info? 5).map (fun i => (i.zero, i.size, i.bytes)) = some (some (.int .u8 0), 1, 1) := by kernel_rfl

/-- A builder at block b, whose bytes lie from 'base' on. -/
def BldP (w : World) (base b : Nat) (p : Value) (A : Option Addr) (c : Nat) (l : List UInt8) : Prop :=
  Blk w b 55 #[p, .slice A l.length c] ∧ Own w base 5 A c l ∧ b < base ∧ base ≤ w.heap.size
def Bld (w : World) (base b : Nat) (l : List UInt8) : Prop := ∃ p A c, (p = .pointer none ∨ p = .pointer (some ⟨b, 0, none⟩)) ∧ BldP w base b p A c l

theorem Bld.new (w : World) (base b : Nat) (h : Blk w b 55 #[.pointer none, .slice none 0 0]) (hb : b < base) (hs : base ≤ w.heap.size) : Bld w base b [] := ⟨_, none, 0, .inl rfl, h, Own.nil _ _ _, hb, hs⟩
theorem Bld.size {w : World} {base b : Nat} {l : List UInt8} (h : Bld w base b l) : base ≤ w.heap.size := by obtain ⟨_, _, _, _, _, _, _, h⟩ := h; exact h
/-- What touches neither of both. -/
theorem Bld.shy {U : Nat → Prop} {w w' : World} {base b : Nat} {l : List UInt8} (h : Bld w base b l) (hs : Shy U w w') (h1 : ¬ U b) (h2 : ∀ k, base ≤ k → ¬ U k) : Bld w' base b l := by
  obtain ⟨p, A, c, hp, hb, ho, hlt, hz⟩ := h
  refine ⟨p, A, c, hp, (hs.block b hb.lt h1).trans hb, hs.ownG ho (fun k hk => h2 k (ho.lt k hk).1), hlt, Nat.le_trans hz hs.size⟩
theorem Bld.far {w : World} {base b : Nat} {l : List UInt8} (h : Bld w base b l) {g : Nat} (h1 : g ≠ b) (h2 : g < base) (i : Nat) (v : Value) : Bld (w.setCell ⟨g, i, none⟩ v) base b l := by
  obtain ⟨p, A, c, hp, hb, ho, hlt, hz⟩ := h
  exact ⟨p, A, c, hp, hb.far (Ne.symm h1) _, ho.far h2 _, hlt, by simpa [World.setCell] using hz⟩

set_option maxHeartbeats 1000000 in
set_option maxRecDepth 100000 in
theorem check_used (b : Nat) (w : World) (h0 : w.cell? ⟨b, 0, none⟩ = some (.pointer (some ⟨b, 0, none⟩))) :
    Calls Try.prog 47 #[.pointer (some ⟨b, 0, none⟩)] w fun e w' => e = .returned (.tuple #[]) ∧ w' = w := by
  obtain ⟨j, hj, _⟩ := Option.map_eq_some_iff.1 size_B
  go_enter Try.func47, Try.ntmps47
  go_wp2
  rw [Lib.run_neq_ptr_same w _ Try.underlying52 hj]
  go_wp2
  go_end0
  exact ⟨rfl, rfl⟩
set_option maxHeartbeats 1000000 in
set_option maxRecDepth 100000 in
theorem check_fresh (b : Nat) (w : World) (h0 : w.cell? ⟨b, 0, none⟩ = some (.pointer none)) (hsh : w.shape? b = some (55, 2)) (hfz : w.frozen? ⟨b, 0, none⟩ = false) :
    Calls Try.prog 47 #[.pointer (some ⟨b, 0, none⟩)] w fun e w' => e = .returned (.tuple #[]) ∧ w' = w.setCell ⟨b, 0, none⟩ (.pointer (some ⟨b, 0, none⟩)) := by
  obtain ⟨j, hj, hjs⟩ := Option.map_eq_some_iff.1 size_B
  go_enter Try.func47, Try.ntmps47
  go_wp2
  rw [Lib.run_to_unsafe w ⟨b, 0, none⟩ Try.underlying52 Try.underlying77 hj (by rw [hjs]; decide) hsh (Nat.zero_lt_succ 1)]
  simp only [Result.andThen]
  rw [Oper.upon_value]
  go_wp2
  rw [run_callFunc_extern Try.func50 (by kernel_rfl) (by kernel_rfl) (by kernel_rfl) (e := Extern.AbiNoEscape.same) (by kernel_rfl)]
  rw [Lib.run_noEscape]
  simp only [Result.andThen]
  rw [Oper.upon_value]
  go_wp2
  rw [Lib.run_from_unsafe w ⟨b, 0, none⟩ Try.underlying77 Try.underlying52 hj hsh (by kernel_rfl)]
  simp only [Result.andThen]
  rw [Oper.upon_value]
  go_wp2
  go_end0
  exact ⟨rfl, rfl⟩

theorem shy_set {w : World} {b : Nat} (i : Nat) (v : Value) : Shy (fun k => k = b) w (w.setCell ⟨b, i, none⟩ v) :=
  ⟨rfl, rfl, rfl, by simp [World.setCell], fun k _ hk => Below.heap_setCell _ _ _ _ (fun e => hk e)⟩

theorem check_any (base b : Nat) (p : Value) (A : Option Addr) (c : Nat) (l : List UInt8) (w : World) (h : BldP w base b p A c l) (hp : p = .pointer none ∨ p = .pointer (some ⟨b, 0, none⟩)) :
    Calls Try.prog 47 #[.pointer (some ⟨b, 0, none⟩)] w fun e w' => e = .returned (.tuple #[]) ∧ BldP w' base b (.pointer (some ⟨b, 0, none⟩)) A c l ∧ Shy (fun k => k = b) w w' := by
  obtain ⟨hb, ho, hlt, hz⟩ := h
  rcases hp with rfl | rfl
  · refine (check_fresh b w (hb.cell 0) (by unfold Blk at hb; simp [World.shape?, hb]) (hb.frozen 0)).mono ?_
    rintro e w' ⟨rfl, rfl⟩
    exact ⟨rfl, ⟨by simpa using hb.set_ 0 (.pointer (some ⟨b, 0, none⟩)), ho.far hlt _, hlt, by simpa [World.setCell] using hz⟩, shy_set _ _⟩
  · refine (check_used b w (hb.cell 0)).mono ?_
    rintro e w' ⟨rfl, rfl⟩
    exact ⟨rfl, ⟨hb, ho, hlt, hz⟩, Shy.refl _⟩

set_option maxHeartbeats 2000000 in
set_option maxRecDepth 100000 in
theorem write_byte (base b : Nat) (l : List UInt8) (x : UInt8) (w : World) (h : Bld w base b l) (hlen : l.length + 1 ≤ 140737488355328) :
    Calls Try.prog 37 #[.pointer (some ⟨b, 0, none⟩), .int .u8 x.toNat] w fun e w' => e = .returned .nilIface ∧ Bld w' base b (l ++ [x]) ∧ Shy (fun k => k = b ∨ base ≤ k) w w' := by
  obtain ⟨i0, hi, hz0, hz1, hz2⟩ := info_parts info_b8
  obtain ⟨p, A, c, hp, h⟩ := h
  have cc := hid (check_any base b p A c l w h hp)
  clear h hp
  go_enter Try.func37, Try.ntmps37
  go_wp2_with fail
  refine cc.out.mono ?_
  rintro e w1 ⟨rfl, ⟨hbk, hown, hlt, hz⟩, hs1⟩
  obtain ⟨c0, c1, cf⟩ := hbk.two
  clear cc
  have hne : some b ≠ blk A := by
    intro e
    have := (hown.lt b e.symm).1
    omega
  go_wp2_with (at_builtin; go_must (refine wpList_append_1' rfl (.tmp 11) (.tmp 13) 53 rfl base 5 i0 (.int .u8 0) 1 Try.underlying53 hi hz0 hz1 hz2 rfl ⟨0, rfl⟩ (fun _ h => h.one) rfl hown (u8v x) (by rfl) ⟨_, rfl⟩ (by omega) (by unfold maxLen; omega) hz ?_); intro A5 c5 w5 o5 g5 x5 n5; have K5 := hbk.grown g5 hne; obtain ⟨d0, d1, df⟩ := K5.two)
  go_ret
  refine ⟨rfl, ⟨_, A5, c5, .inr rfl, by simpa using K5.set_ 1 (.slice A5 (l ++ [x]).length c5), ?_, hlt, ?_⟩, ?_⟩
  · have : Own w5 base 5 A5 c5 (l ++ [x]) := by simpa [Own] using o5
    exact this.far hlt _
  · have := g5.size
    simp only [World.setCell]
    simpa using Nat.le_trans hz this
  · refine Shy.trans (U := fun k => k = b ∨ base ≤ k) (Shy.trans (hs1.mono fun k _ hk => .inl hk) (shy_of_grown g5) fun k _ hk => .inr (hown.lt k hk).1) (shy_set 1 _) fun k _ hk => .inl hk
end Go.Proofs.Ytcgcadhnecakaaa

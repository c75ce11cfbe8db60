/- A part of the contracts of the small functions that the statements share. -/
import Derived.Test.YtholjbnggnfapaaKBase
namespace Go.Proofs.Ytholjbnggnfapaa
open Go.BK Go.RowKit
set_option linter.unusedVariables false

theorem xor_fin : ∀ n : Fin 256, bits .xor .u8 (n.val : Int) 90 = ((UInt8.ofNat n.val ^^^ 90).toNat : Int) := by decide +kernel
theorem xor_u8 (b : UInt8) : bits .xor .u8 (b.toNat : Int) 90 = ((b ^^^ 90).toNat : Int) := by
  have := xor_fin ⟨b.toNat, b.toNat_lt⟩
  simpa using this
set_option maxHeartbeats 1000000 in
/-- OverBytes: all is written over, the spare room too; nothing else is. -/
theorem over_bytes {A : Option Addr} {c base : Nat} {l : List UInt8} {w : World} (h : Own w base 5 A c l) :
    Calls Try.prog 30 #[.slice A l.length c] w fun e w' => e = .returned (.tuple #[]) ∧ w.grownBy w' (blk A) ∧ ∃ l', l'.length = l.length ∧ Own w' base 5 A c l' := by
  obtain ⟨full, hfull, hfl, htk, hfok⟩ := OwnG.full h
  obtain ⟨fl, rfl⟩ := u8v_list hfok
  simp only [List.length_map, Nat.mul_one] at hfl
  have hlc : l.length ≤ c := (OwnG.rd h).2.1
  have hc := (OwnG.rd h).c_le
  rcases Nat.eq_zero_or_pos c with h0 | h0
  · subst h0
    have hl0 : l = [] := List.eq_nil_of_length_eq_zero (by omega)
    subst hl0
    go_enter Try.func30, Try.ntmps30
    go_wp2
    refine wp_loop_rounds 1 ?_
    rw [rounds_succ]
    go_wp2
    go_end0
    exact ⟨rfl, grown_refl _ _, [], rfl, h⟩
  · obtain ⟨g, rfl, hbg, hg⟩ := hfull.head h0
    have hc0 : ¬ c = 0 := by omega
    go_enter Try.func30, Try.ntmps30
    go_wp2
    go_loopw [3] (fun i wr => ∃ k : Nat, k ≤ c ∧ i = .int .i64 k ∧ (∃ fl' : List UInt8, fl'.length = c ∧ Own wr base 5 (some ⟨g, 0, none⟩) c fl') ∧ w.grownBy wr (some g)) (fun i _ => c - (intOf i).toNat)
    case atStart => exact ⟨0, Nat.zero_le _, rfl, ⟨fl, hfl, by simpa [Own, hfl] using hfull⟩, grown_refl _ _⟩
    case round =>
      obtain ⟨k, hk, rfl, ⟨fl', hfl', hown⟩, hgr⟩ := hrel
      by_cases hlt : k < c
      · obtain ⟨b, hb⟩ : ∃ b : UInt8, b = fl'.getD k 0 := ⟨_, rfl⟩
        have hcell : wr.cell? ⟨g, k, none⟩ = some (.int .u8 b.toNat) := by
          obtain ⟨b', o, h1, _, h3⟩ := (Own.rd hown).at_ (k := k) (by omega)
          injection h1 with h1; injection h1 with h1 h2; subst h1; subst h2
          rw [hb]; simpa using h3
        have hfz : wr.frozen? ⟨g, k, none⟩ = false := OwnG.frozen hown rfl k
        have hx := xor_u8 b
        have hstep := OwnG.set (k := k) hown hlt (v := u8v (b ^^^ 90)) ⟨_, rfl⟩ rfl
        have hgs := grown_of_set (g := g) hgr (.inl rfl) k (u8v (b ^^^ 90))
        have HB := hid hb
        clear hb
        go_wp2
        go_roundw
        case rel => exact ⟨k + 1, by omega, by go_num, ⟨fl'.set k (b ^^^ 90), by simp [hfl'], by unfold Own; rw [List.length_set, List.map_set]; exact hstep⟩, hgs⟩
        case measure => simp [intOf]; omega
      · go_wp2
        go_end0
        refine ⟨rfl, hgr, fl'.take l.length, by simp; omega, ?_⟩
        have := OwnG.shrink hown l.length (by omega)
        unfold Own
        rw [List.map_take, List.length_take, hfl', Nat.min_eq_left hlc]
        simpa using this

end Go.Proofs.Ytholjbnggnfapaa

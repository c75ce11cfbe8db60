/- OctetParts: bytes that are told from one place on, and then from where they ended on, are those that are told at once. -/
import Derived.Test.YtcbfpillplhgnaaOctetG
namespace Go.Proofs.Ytcbfpillplhgnaa
open Go.BK Go.RowKit
set_option linter.unusedVariables false

theorem two_new {w w1 : World} {g : Nat} {a b : Value} {t : TypeId} (h : Blk w g t #[a, b]) (x : Ext w w1) : Blk w1 g t #[a, b] := h.ext x

set_option maxHeartbeats 4000000 in
/-- The walk, where the three calls of Bytes tell what they tell. -/
theorem parts_core {A : Option Addr} {c : Nat} {l x y xy : List UInt8} (a n m : Nat) (a0 n0 m0 : Int) (w : World) (hb : Rd w A c l) (hlen : ¬ 1000 < l.length)
    (h0 : ∀ v ∈ [a0, n0, m0], -9223372036854775808 ≤ v ∧ v ≤ 9223372036854775807)
    (p1 : pick a0 ((l.length : Int) + 1) = a) (p2 : pick n0 ((l.length : Int) + 2) = n) (p3 : pick m0 ((l.length : Int) + 2) = m)
    (ha : a ≤ l.length) (hn : n ≤ l.length + 1) (hm : m ≤ l.length + 1)
    (i k j e1 e2 f1 f2 g1 g2 : Int)
    (B1 : bytesS l a n = (x, i, e1, e2)) (B2 : bytesS l a ((n : Int) + m) = (xy, k, f1, f2)) (B3 : e1 = 0 → bytesS l i m = (y, j, g1, g2)) (hi : -9223372036854775808 ≤ i ∧ i ≤ 9223372036854775807)
    (hcase : (e1 = 4 ∧ e2 = l.length ∧ f1 = 4 ∧ f2 = l.length) ∨ (e1 = 0 ∧ f1 = 4 ∧ g1 = 4 ∧ f2 = g2) ∨ (e1 = 0 ∧ f1 = 0 ∧ g1 = 0 ∧ f2 = g2 ∧ j = k ∧ x ++ y = xy ∧ x.length ≤ 1000 ∧ y.length ≤ 1000)) :
    Calls Try.prog 5 #[.slice A l.length c, .int .i64 a0, .int .i64 n0, .int .i64 m0] w fun e w' => e = .returned (.bool true) ∧ Below w.heap.size w w' := by
  have hl : l.length ≤ 140737488355328 := by omega
  have P1 := hid (fun W => pick_any a0 ((l.length : Int) + 1) W (h0 a0 (by simp)) (by omega))
  have P2 := hid (fun W => pick_any n0 ((l.length : Int) + 2) W (h0 n0 (by simp)) (by omega))
  have P3 := hid (fun W => pick_any m0 ((l.length : Int) + 2) W (h0 m0 (by simp)) (by omega))
  rw [p1] at P1; rw [p2] at P2; rw [p3] at P3
  have C1 := hid (fun W A c (h : Rd W A c l) => bytes_any a n h hl (by omega) (by omega))
  have C2 := hid (fun W A c (h : Rd W A c l) => bytes_any a ((n : Int) + m) h hl (by omega) (by omega))
  have C3 := hid (fun W A c (h : Rd W A c l) => bytes_any i m h hl hi (by omega))
  rw [B1] at C1
  rw [B2] at C2
  have HB3 := hid B3
  clear p1 p2 p3 B1 B2 B3 h0
  rcases hcase with ⟨rfl, rfl, rfl, rfl⟩ | ⟨rfl, rfl, rfl, rfl⟩ | ⟨rfl, rfl, rfl, rfl, rfl, rfl, hx, hy⟩
  all_goals
    go_enter Try.func5, Try.ntmps5
    go_wp2_with fail
    refine (awake_yes _).mono ?_; rintro e w1 ⟨rfl, x1⟩
    go_wp2_with fail
    refine (P1.out _).mono ?_; rintro e wz ⟨rfl, rfl⟩
    go_wp2_with fail
    refine (P2.out _).mono ?_; rintro e wz ⟨rfl, rfl⟩
    go_wp2_with fail
    refine (P3.out _).mono ?_; rintro e wz ⟨rfl, rfl⟩
    go_wp2_with fail
    have hb1 := hb.ext x1
    refine (C1.out _ _ _ hb1).mono ?_; rintro e w2 ⟨A2, c2, rfl, o2, x2⟩
  · go_wp2_with fail
    have hb2 := (hb1.ext x2).ext (ext_alloc w2 (.cells #[.int .i64 4, .int .i64 l.length] 31))
    refine (C2.out _ _ _ hb2).mono ?_; rintro e w3 ⟨A3, c3, rfl, o3, x3⟩
    have b2 := (Blk.new w2 31 #[.int .i64 4, .int .i64 l.length]).ext x3
    obtain ⟨f2a, f2b, f2c⟩ := b2.two
    have z2 := b2.lt
    have E := ext_trans (ext_trans (ext_trans x1 x2) (ext_trans (ext_alloc w2 _) x3)) (ext_alloc w3 (.cells #[.int .i64 4, .int .i64 l.length] 31))
    clear x1 x2 x3 hb hb1 hb2
    go_wp2_with fail
    go_ret
    exact ⟨rfl, E⟩
  · go_wp2_with fail
    have hb2 := (hb1.ext x2).ext (ext_alloc w2 (.cells #[.int .i64 0, .int .i64 e2] 31))
    have o2 := o2.ext (ext_alloc w2 (.cells #[.int .i64 0, .int .i64 e2] 31))
    have E2 := ext_trans (ext_trans x1 x2) (ext_alloc w2 (.cells #[.int .i64 0, .int .i64 e2] 31))
    refine (C2.out _ _ _ hb2).mono ?_; rintro e w3 ⟨A3, c3, rfl, o3, x3⟩
    have o30 := o3
    have b2 := (Blk.new w2 31 #[.int .i64 0, .int .i64 e2]).ext x3
    obtain ⟨f2a, f2b, f2c⟩ := b2.two
    have z2 := b2.lt
    have hb3 := (hb2.ext x3).ext (ext_alloc w3 (.cells #[.int .i64 4, .int .i64 f2] 31))
    have o2 := (o2.ext x3).ext (ext_alloc w3 (.cells #[.int .i64 4, .int .i64 f2] 31))
    have o3 := o3.ext (ext_alloc w3 (.cells #[.int .i64 4, .int .i64 f2] 31))
    have E3 := ext_trans (ext_trans E2 x3) (ext_alloc w3 (.cells #[.int .i64 4, .int .i64 f2] 31))
    have b3 := Blk.new w3 31 #[.int .i64 4, .int .i64 f2]
    have b2 := b2.alloc (.cells #[.int .i64 4, .int .i64 f2] 31)
    have C3' := C3.out
    rw [HB3.out (by trivial)] at C3'
    have C3 := hid C3'
    clear C3' x1 x2 x3 E2 hb hb1 hb2
    go_wp2_with fail
    clear f2a f2b f2c z2
    refine (C3.out _ _ _ hb3).mono ?_; rintro e w4 ⟨A4, c4, rfl, o4, x4⟩
    have z34 : w3.heap.size ≤ w4.heap.size := by have := x4.size; simp at this; omega
    have b2 := b2.ext x4
    have b3 := b3.ext x4
    obtain ⟨f3a, f3b, f3c⟩ := b3.two
    have z3 := b3.lt
    have E := ext_trans (ext_trans E3 x4) (ext_alloc w4 (.cells #[.int .i64 4, .int .i64 f2] 31))
    clear E3 x4
    go_wp2_with fail
    go_ret
    exact ⟨rfl, E⟩
  · go_wp2_with fail
    have hb2 := (hb1.ext x2).ext (ext_alloc w2 (.cells #[.int .i64 0, .int .i64 e2] 31))
    have o2 := o2.ext (ext_alloc w2 (.cells #[.int .i64 0, .int .i64 e2] 31))
    have E2 := ext_trans (ext_trans x1 x2) (ext_alloc w2 (.cells #[.int .i64 0, .int .i64 e2] 31))
    refine (C2.out _ _ _ hb2).mono ?_; rintro e w3 ⟨A3, c3, rfl, o3, x3⟩
    have o30 := o3
    have b2 := (Blk.new w2 31 #[.int .i64 0, .int .i64 e2]).ext x3
    obtain ⟨f2a, f2b, f2c⟩ := b2.two
    have z2 := b2.lt
    have hb3 := (hb2.ext x3).ext (ext_alloc w3 (.cells #[.int .i64 0, .int .i64 f2] 31))
    have o2 := (o2.ext x3).ext (ext_alloc w3 (.cells #[.int .i64 0, .int .i64 f2] 31))
    have o3 := o3.ext (ext_alloc w3 (.cells #[.int .i64 0, .int .i64 f2] 31))
    have E3 := ext_trans (ext_trans E2 x3) (ext_alloc w3 (.cells #[.int .i64 0, .int .i64 f2] 31))
    have b3 := Blk.new w3 31 #[.int .i64 0, .int .i64 f2]
    have b2 := b2.alloc (.cells #[.int .i64 0, .int .i64 f2] 31)
    have C3' := C3.out
    rw [HB3.out (by trivial)] at C3'
    have C3 := hid C3'
    clear C3' x1 x2 x3 E2 hb hb1 hb2
    go_wp2_with fail
    clear f2a f2b f2c z2
    refine (C3.out _ _ _ hb3).mono ?_; rintro e w4 ⟨A4, c4, rfl, o4, x4⟩
    have z34 : w3.heap.size ≤ w4.heap.size := by have := x4.size; simp at this; omega
    have b2 := b2.ext x4
    have b3 := b3.ext x4
    obtain ⟨f3a, f3b, f3c⟩ := b3.two
    have z3 := b3.lt
    have o2 := (o2.ext x4).ext (ext_alloc w4 (.cells #[.int .i64 0, .int .i64 f2] 31))
    have o3 := (o3.ext x4).ext (ext_alloc w4 (.cells #[.int .i64 0, .int .i64 f2] 31))
    have o4 := o4.ext (ext_alloc w4 (.cells #[.int .i64 0, .int .i64 f2] 31))
    have E := ext_trans (ext_trans E3 x4) (ext_alloc w4 (.cells #[.int .i64 0, .int .i64 f2] 31))
    clear E3 x4 hb3
    go_wp2_with fail
    clear f3a f3b f3c z3 b2 b3
    refine (copy_bytes o2.rd (by omega)).mono ?_; rintro e w5 ⟨A5, c5, rfl, o5, x5⟩
    have o3 := o3.ext x5
    have o4 := o4.ext x5
    have o5g : OwnG isU8 w5 (w4.heap.size + 1) 5 1 A5 x.length c5 (x.map u8v) := by have := o5; simpa [Own] using this
    obtain ⟨i0, hi0, hz0, hz1, hz2⟩ := info_parts info_u8
    go_wp2_with (at_builtin; refine wpList_append_g rfl (.tmp 95) (.tmp 96) 22 rfl (w4.heap.size + 1) 5 i0 (.int .u8 0) 1 1 Try.underlying22 hi0 hz0 hz1 hz2 rfl (by decide) (by simp [Value.cells]; exact ⟨0, rfl⟩) (fun _ h => h.one) rfl o5g rfl o4.rd (isU8_map y) (by omega) (by unfold maxLen; omega) (by have := x5.size; simp at this; omega) ?_; intro A6 c6 w6 o6 g6 _)
    have o6' : Rd w6 A6 c6 (x ++ y) := by
      have := o6.rd; unfold Rd; rw [List.map_append, List.length_append]; exact this
    have o3' : Rd w6 A3 c3 (x ++ y) := o3.rd.grown g6 (by
      intro h0 hB
      obtain ⟨b, hb1, hb2⟩ := o30.rd.lt h0
      have := o5g.lt b (by rw [← hB, hb1])
      have := o30.lt b hb1
      omega)
    have E6 : Below w.heap.size w w6 := Below.grown (ext_trans E x5) g6 (by have := E.size; have := x5.size; omega) fun b hb' => by have := o5g.lt b hb'; have := E.size; simp at this; omega
    clear o3 o4 o5 o5g o6 g6 x5 E o30 o2
    refine (same_yes o6' o3' (by simp)).mono ?_; rintro e w7 ⟨rfl, rfl⟩
    go_wp2_with fail
    go_ret
    exact ⟨rfl, E6⟩

theorem parts_walk {A : Option Addr} {c : Nat} {l : List UInt8} (a0 n0 m0 : Int) (w : World) (hb : Rd w A c l) (ha : -9223372036854775808 ≤ a0 ∧ a0 ≤ 9223372036854775807) (hn : -9223372036854775808 ≤ n0 ∧ n0 ≤ 9223372036854775807) (hm : -9223372036854775808 ≤ m0 ∧ m0 ≤ 9223372036854775807) :
    Calls Try.prog 5 #[.slice A l.length c, .int .i64 a0, .int .i64 n0, .int .i64 m0] w fun e w' => e = .returned (.bool true) ∧ Below w.heap.size w w' := by
  have hnl := hb.n_le
  by_cases hlen : 1000 < l.length
  · go_enter Try.func5, Try.ntmps5
    go_wp2_with fail
    refine (awake_yes _).mono ?_; rintro e w1 ⟨rfl, x1⟩
    go_wp2_with fail
    go_ret
    exact ⟨rfl, x1⟩
  · have q1 := pick_range a0 ((l.length : Int) + 1) (by omega)
    have q2 := pick_range n0 ((l.length : Int) + 2) (by omega)
    have q3 := pick_range m0 ((l.length : Int) + 2) (by omega)
    obtain ⟨a, ea⟩ := Int.eq_ofNat_of_zero_le q1.1
    obtain ⟨n, en⟩ := Int.eq_ofNat_of_zero_le q2.1
    obtain ⟨m, em⟩ := Int.eq_ofNat_of_zero_le q3.1
    rw [ea] at q1; rw [en] at q2; rw [em] at q3
    have h0 : ∀ v ∈ [a0, n0, m0], -9223372036854775808 ≤ v ∧ v ≤ 9223372036854775807 := by simp; exact ⟨ha, hn, hm⟩
    by_cases h1 : (l.length : Int) - a < n
    · have B1 : bytesS l a n = ([], 0, 4, (l.length : Int)) := by unfold bytesS; rw [if_neg (by omega), if_neg (by omega), if_pos h1]
      have B2 : bytesS l a ((n : Int) + m) = ([], 0, 4, (l.length : Int)) := by unfold bytesS; rw [if_neg (by omega), if_neg (by omega), if_pos (by omega)]
      exact parts_core (x := []) (y := []) (xy := []) a n m a0 n0 m0 w hb hlen h0 ea en em (by omega) (by omega) (by omega) 0 0 0 4 l.length 4 l.length 0 0 B1 B2 (by omega) (by omega) (.inl ⟨rfl, rfl, rfl, rfl⟩)
    · have B1 : bytesS l a n = ((l.drop a).take n, (a : Int) + n, 0, 0) := by unfold bytesS; rw [if_neg (by omega), if_neg (by omega), if_neg h1]; simp
      by_cases h2 : (l.length : Int) - a < (n : Int) + m
      · have B2 : bytesS l a ((n : Int) + m) = ([], 0, 4, (l.length : Int)) := by unfold bytesS; rw [if_neg (by omega), if_neg (by omega), if_pos h2]
        have B3 : bytesS l ((a : Int) + n) m = ([], 0, 4, (l.length : Int)) := by unfold bytesS; rw [if_neg (by omega), if_neg (by omega), if_pos (by omega)]
        exact parts_core (y := []) (xy := []) a n m a0 n0 m0 w hb hlen h0 ea en em (by omega) (by omega) (by omega) _ 0 0 0 0 4 l.length 4 l.length B1 B2 (fun _ => B3) (by omega) (.inr (.inl ⟨rfl, rfl, rfl, rfl⟩))
      · have B2 : bytesS l a ((n : Int) + m) = ((l.drop a).take (n + m), (a : Int) + n + m, 0, 0) := by
          unfold bytesS; rw [if_neg (by omega), if_neg (by omega), if_neg h2, show ((n : Int) + m).toNat = n + m from by omega, show (a : Int) + (n + m) = a + n + m from by omega]; simp
        have B3 : bytesS l ((a : Int) + n) m = ((l.drop (a + n)).take m, (a : Int) + n + m, 0, 0) := by
          unfold bytesS; rw [if_neg (by omega), if_neg (by omega), if_neg (by omega), show ((a : Int) + n).toNat = a + n from by omega]; simp
        exact parts_core a n m a0 n0 m0 w hb hlen h0 ea en em (by omega) (by omega) (by omega) _ _ _ 0 0 0 0 0 0 B1 B2 (fun _ => B3) (by omega) (.inr (.inr ⟨rfl, rfl, rfl, rfl, rfl, by rw [List.take_add, List.drop_drop], by simp; omega, by simp; omega⟩))

end Go.Proofs.Ytcbfpillplhgnaa

/- OctetBack: what is put is got, wherever it stands; and bytes that are got are those that are put. -/
import Derived.Test.YtcbfpillplhgnaaOctetG
namespace Go.Proofs.Ytcbfpillplhgnaa
open Go.BK Go.RowKit
set_option linter.unusedVariables false

theorem num_lt4 (l : List UInt8) : num (l.take 4) < 4294967296 := by
  have h1 := num_lt _ (l.take 4) rfl
  have h2 : (l.take 4).length ≤ 4 := by simp; omega
  have h3 : 256 ^ (l.take 4).length ≤ 256 ^ 4 := Nat.pow_le_pow_right (by decide) h2
  omega
theorem num_two (l : List UInt8) (h : 4 ≤ l.length) : num (l.take 4) = 65536 * num (l.take 2) + num ((l.drop 2).take 2) := by
  match l, h with
  | a :: b :: c :: d :: r, _ =>
    simp [num]
    omega
/-- What is got where a number was put. -/
theorem get_put (s n : Nat) (a b : List UInt8) (h : n < 256 ^ s) (hs : s ≤ 4) : getS (a ++ be s n ++ b) a.length s = ((n : Int), (a.length : Int) + s, 0, 0) := by
  unfold getS
  have hl : (a ++ be s n ++ b).length = a.length + s + b.length := by simp [be_length]; omega
  rw [if_neg (by rw [hl]; omega), if_pos (by rw [hl]; simp), Int.toNat_natCast, List.append_assoc, List.drop_left, List.take_append_of_le_length (by rw [be_length]; exact Nat.le_refl _), List.take_of_length_le (by rw [be_length]; exact Nat.le_refl _), num_be, Nat.mod_eq_of_lt h]
theorem get_behind (l : List UInt8) (f s : Nat) (h : f + s ≤ l.length) : getS l f s = ((num ((l.drop f).take s) : Int), (f : Int) + s, 0, 0) := by
  unfold getS; rw [if_neg (by omega), if_pos (by simpa using h)]; simp
theorem get_short (l : List UInt8) (h : ¬ 4 ≤ l.length) : getS l 0 4 = (0, 0, 4, (l.length : Int)) := by
  unfold getS; rw [if_neg (by omega), if_neg (by simp; omega)]

theorem ext_grown {a b c : World} {row : Option Nat} (h : Ext a b) (hg : b.grownBy c row) (hr : ∀ g, row = some g → a.heap.size ≤ g) : Ext a c := Below.grown h hg h.size hr
theorem rd_app {w : World} {A : Option Addr} {c n m k : Nat} {a b d : List UInt8} (h : RdG w 1 A (n + m + k) c (a.map u8v ++ b.map u8v ++ d.map u8v)) (hn : a.length = n) (hm : b.length = m) (hk : d.length = k) : Rd w A c (a ++ b ++ d) := by
  subst hn; subst hm; subst hk
  unfold Rd
  rw [List.map_append, List.map_append, List.length_append, List.length_append]
  exact h

set_option maxRecDepth 100000 in
set_option maxHeartbeats 4000000 in
theorem back_ay {A B : Option Addr} {ca cb : Nat} {a b : List UInt8} (n : Nat) (w : World) (ha : Rd w A ca a) (hb : Rd w B cb b) (hla : ¬ 100 < a.length) (hlb : ¬ 100 < b.length) (hn : n < 65536) (h4 : 4 ≤ b.length) :
    Calls Try.prog 4 #[.int .i64 n, .slice A a.length ca, .slice B b.length cb] w fun e w' => e = .returned (.bool true) ∧ Below w.heap.size w w' := by
  have HP2 := hid (fun W => octet_Put16 n W)
  have HP4 := hid (fun W => octet_Put32 n W)
  rw [putS_yes 2 n (by omega)] at HP2
  simp only [be_length] at HP2
  rw [putS_yes 4 n (by omega)] at HP4
  simp only [be_length] at HP4
  obtain ⟨z, hz⟩ : ∃ z : Int, (n : Int) = z := ⟨_, rfl⟩
  rw [hz] at HP2 HP4 ⊢
  have hy0 : 0 ≤ z := by omega
  have hy1 : z < 65536 := by omega
  have hy2 : z < 4294967296 := by omega
  have hz := hid hz
  have hnn := hid hn
  clear hn
  have hg : getS b 0 4 = (((num (b.take 4) : Nat) : Int), 4, 0, 0) := get_behind b 0 4 (by omega)
  have hg1 : getS b 0 2 = (((num (b.take 2) : Nat) : Int), 2, 0, 0) := get_behind b 0 2 (by omega)
  have hg2 : getS b 2 2 = (((num ((b.drop 2).take 2) : Nat) : Int), 4, 0, 0) := get_behind b 2 2 (by omega)
  have h2 := num_two b h4
  have h5 := num_lt4 b
  have hbe := be_num 4 (b.take 4) (by simp; omega)
  have HQ := hid (fun W => octet_Put32 (num (b.take 4) : Nat) W)
  rw [putS_yes 4 _ h5] at HQ
  simp only [be_length] at HQ
  rw [hbe] at HQ
  obtain ⟨q, hq⟩ : ∃ q : Int, (num (b.take 4) : Int) = q := ⟨_, rfl⟩
  obtain ⟨q1, hq1⟩ : ∃ q : Int, (num (b.take 2) : Int) = q := ⟨_, rfl⟩
  obtain ⟨q2, hq2⟩ : ∃ q : Int, (num ((b.drop 2).take 2) : Int) = q := ⟨_, rfl⟩
  have hqq : q = 65536 * q1 + q2 := by omega
  have hqa : 0 ≤ q1 := by omega
  have hqb : 0 ≤ q2 := by omega
  have hqc : q1 ≤ 65535 := by omega
  have hqd : q2 ≤ 4294967295 := by omega
  rw [hq, hqq] at hg HQ
  rw [hq1] at hg1
  rw [hq2] at hg2
  clear hq hq1 hq2 h2 h5 hbe hqq q
  have hg := hid hg
  have hg1 := hid hg1
  have hg2 := hid hg2
  have hcb : ¬ cb = 0 := by have := hb.le; omega
  have hcb4 : (4 : Int) ≤ (cb : Int) := by have := hb.le; omega
  obtain ⟨i0, hi0, hz0, hz1, hz2⟩ := info_parts info_u8
  go_enter Try.func4, Try.ntmps4
  go_wp2_with fail
  refine (awake_yes _).mono ?_; rintro e w1 ⟨rfl, x1⟩
  have ha := ha.ext x1
  have hb := hb.ext x1
  have E := x1
  clear x1
  go_wp2_with fail
  refine (HP2.out _).mono ?_; rintro e w2 ⟨A2, c2, rfl, o2, x2⟩
  have ha := ha.ext x2
  have hb := hb.ext x2
  have E := ext_trans E x2
  go_wp2_with fail
  refine (copy_bytes ha (by omega)).mono ?_; rintro e w3 ⟨A3, c3, rfl, o3, x3⟩
  have gW : OwnG isU8 w3 w2.heap.size 5 1 A3 a.length c3 (a.map u8v) := o3
  have q : RdG w3 1 A2 2 c2 ((be 2 n).map u8v) := by have := o2.rd.ext x3; unfold Rd at this; rwa [be_length] at this
  go_wp2_with (first | ((with_reducible show wpList _ _ _ (⟨some 58, _, _, _, _, _⟩ :: _) _ _); refine wpList_append_g rfl (.tmp 56) (.tmp 57) 22 rfl w2.heap.size 5 i0 (.int .u8 0) 1 1 Try.underlying22 hi0 hz0 hz1 hz2 rfl (by decide) (by simp [Value.cells]; exact ⟨0, rfl⟩) (fun _ h => h.one) rfl gW rfl q (isU8_map _) (by omega) (by unfold maxLen; omega) x3.size ?_; intro B1 b1 V1 g1 r1 _; have y1 : Ext w2 V1 := ext_grown x3 r1 (fun b h => (gW.lt b h).1); have hb1 : RdG V1 1 B b.length cb (b.map u8v) := hb.ext y1) | ((with_reducible show wpList _ _ _ (⟨some 60, _, _, _, _, _⟩ :: _) _ _); refine wpList_append_g rfl (.tmp 58) (.tmp 59) 22 rfl w2.heap.size 5 i0 (.int .u8 0) 1 1 Try.underlying22 hi0 hz0 hz1 hz2 rfl (by decide) (by simp [Value.cells]; exact ⟨0, rfl⟩) (fun _ h => h.one) rfl g1 rfl hb1 (isU8_map _) (by omega) (by unfold maxLen; omega) y1.size ?_; intro B2 b2 V2 g2 r2 _; have y2 : Ext w2 V2 := ext_grown y1 r2 (fun b h => (g1.lt b h).1); have rr := rd_app g2.rd rfl (be_length 2 n) rfl))
  clear gW q g1 r1 hb1 y1 g2 r2 o3 x3
  have cg := octet_Get16 (l := a ++ be 2 n ++ b) a.length rr (by simp [be_length]; omega) (by omega)
  rw [get_put 2 n a b (by have := hnn.out; omega) (by decide), hz.out, show (a ++ be 2 n ++ b).length = a.length + 2 + b.length from by simp [be_length]; omega] at cg
  refine cg.mono ?_; rintro e w4 ⟨rfl, x4⟩
  have y2 := ext_trans y2 x4
  have ha := ha.ext y2
  have hb := hb.ext y2
  have E := ext_trans E y2
  clear cg rr x4 y2 o2 x2
  have ha := ha.ext (ext_alloc w4 (.cells #[.int .i64 0, .int .i64 0] 31))
  have hb := hb.ext (ext_alloc w4 (.cells #[.int .i64 0, .int .i64 0] 31))
  have E := ext_trans E (ext_alloc w4 (.cells #[.int .i64 0, .int .i64 0] 31))
  go_wp2_with fail
  refine (HP4.out _).mono ?_; rintro e w5 ⟨A5, c5, rfl, o5, x5⟩
  have ha := ha.ext x5
  have hb := hb.ext x5
  have E := ext_trans E x5
  go_wp2_with fail
  refine (copy_bytes ha (by omega)).mono ?_; rintro e w6 ⟨A6, c6, rfl, o6, x6⟩
  have gW : OwnG isU8 w6 w5.heap.size 5 1 A6 a.length c6 (a.map u8v) := o6
  have q : RdG w6 1 A5 4 c5 ((be 4 n).map u8v) := by have := o5.rd.ext x6; unfold Rd at this; rwa [be_length] at this
  go_wp2_with (first | ((with_reducible show wpList _ _ _ (⟨some 98, _, _, _, _, _⟩ :: _) _ _); refine wpList_append_g rfl (.tmp 96) (.tmp 97) 22 rfl w5.heap.size 5 i0 (.int .u8 0) 1 1 Try.underlying22 hi0 hz0 hz1 hz2 rfl (by decide) (by simp [Value.cells]; exact ⟨0, rfl⟩) (fun _ h => h.one) rfl gW rfl q (isU8_map _) (by omega) (by unfold maxLen; omega) x6.size ?_; intro B1 b1 V1 g1 r1 _; have y1 : Ext w5 V1 := ext_grown x6 r1 (fun b h => (gW.lt b h).1); have hb1 : RdG V1 1 B b.length cb (b.map u8v) := hb.ext y1) | ((with_reducible show wpList _ _ _ (⟨some 100, _, _, _, _, _⟩ :: _) _ _); refine wpList_append_g rfl (.tmp 98) (.tmp 99) 22 rfl w5.heap.size 5 i0 (.int .u8 0) 1 1 Try.underlying22 hi0 hz0 hz1 hz2 rfl (by decide) (by simp [Value.cells]; exact ⟨0, rfl⟩) (fun _ h => h.one) rfl g1 rfl hb1 (isU8_map _) (by omega) (by unfold maxLen; omega) y1.size ?_; intro B2 b2 V2 g2 r2 _; have y2 : Ext w5 V2 := ext_grown y1 r2 (fun b h => (g1.lt b h).1); have rr := rd_app g2.rd rfl (be_length 4 n) rfl))
  clear gW q g1 r1 hb1 y1 g2 r2 o6 x6
  have cg := octet_Get32 (l := a ++ be 4 n ++ b) a.length rr (by simp [be_length]; omega) (by omega)
  rw [get_put 4 n a b (by have := hnn.out; omega) (by decide), hz.out, show (a ++ be 4 n ++ b).length = a.length + 4 + b.length from by simp [be_length]; omega] at cg
  refine cg.mono ?_; rintro e w7 ⟨rfl, x7⟩
  have y2 := ext_trans y2 x7
  have ha := ha.ext y2
  have hb := hb.ext y2
  have E := ext_trans E y2
  clear cg rr x7 y2 o5 x5
  have ha := ha.ext (ext_alloc w7 (.cells #[.int .i64 0, .int .i64 0] 31))
  have hb := hb.ext (ext_alloc w7 (.cells #[.int .i64 0, .int .i64 0] 31))
  have E := ext_trans E (ext_alloc w7 (.cells #[.int .i64 0, .int .i64 0] 31))
  go_wp2_with fail
  refine (octet_Get32 0 hb (by omega) (by decide)).mono ?_; rintro e w8 ⟨rfl, x8⟩
  rw [hg.out]
  have hb := (hb.ext x8).ext (ext_alloc w8 (.cells #[.int .i64 0, .int .i64 0] 31))
  have E := ext_trans (ext_trans E x8) (ext_alloc w8 (.cells #[.int .i64 0, .int .i64 0] 31))
  clear x8 ha hg
  go_wp2_with fail
  refine (HQ.out _).mono ?_; rintro e w9 ⟨A9, c9, rfl, o9, x9⟩
  have hb := hb.ext x9
  have E := ext_trans E x9
  clear x9
  have oq := o9.rd
  go_wp2_with fail
  have cg := octet_Get16 0 hb (by omega) (by decide)
  rw [hg1.out] at cg
  refine cg.mono ?_; rintro e w10 ⟨rfl, x10⟩
  have hb := (hb.ext x10).ext (ext_alloc w10 (.cells #[.int .i64 0, .int .i64 0] 31))
  have oq := (oq.ext x10).ext (ext_alloc w10 (.cells #[.int .i64 0, .int .i64 0] 31))
  have E := ext_trans (ext_trans E x10) (ext_alloc w10 (.cells #[.int .i64 0, .int .i64 0] 31))
  clear x10 cg
  go_wp2_with fail
  have cg := octet_Get16 2 hb (by omega) (by decide)
  rw [hg2.out] at cg
  refine cg.mono ?_; rintro e w11 ⟨rfl, x11⟩
  have hb := (hb.ext x11).ext (ext_alloc w11 (.cells #[.int .i64 0, .int .i64 0] 31))
  have oq := (oq.ext x11).ext (ext_alloc w11 (.cells #[.int .i64 0, .int .i64 0] 31))
  have E := ext_trans (ext_trans E x11) (ext_alloc w11 (.cells #[.int .i64 0, .int .i64 0] 31))
  clear x11 cg
  go_wp2_with fail
  have hcut := hb.cut (i := 0) (j := 4) (by omega) h4 (A' := B) (fun _ => by cases B <;> simp [Addr.add])
  rw [List.drop_zero, Nat.sub_zero] at hcut
  have oq' := oq
  refine (same_yes (a := b.take 4) oq' hcut (by simp; omega)).mono ?_; rintro e wz ⟨rfl, rfl⟩
  go_wp2_with fail
  go_ret
  exact ⟨rfl, E⟩

set_option maxRecDepth 100000 in
set_option maxHeartbeats 4000000 in
theorem back_an {A B : Option Addr} {ca cb : Nat} {a b : List UInt8} (n : Nat) (w : World) (ha : Rd w A ca a) (hb : Rd w B cb b) (hla : ¬ 100 < a.length) (hlb : ¬ 100 < b.length) (hn : n < 65536) (h4 : ¬ 4 ≤ b.length) :
    Calls Try.prog 4 #[.int .i64 n, .slice A a.length ca, .slice B b.length cb] w fun e w' => e = .returned (.bool true) ∧ Below w.heap.size w w' := by
  have HP2 := hid (fun W => octet_Put16 n W)
  have HP4 := hid (fun W => octet_Put32 n W)
  rw [putS_yes 2 n (by omega)] at HP2
  simp only [be_length] at HP2
  rw [putS_yes 4 n (by omega)] at HP4
  simp only [be_length] at HP4
  obtain ⟨z, hz⟩ : ∃ z : Int, (n : Int) = z := ⟨_, rfl⟩
  rw [hz] at HP2 HP4 ⊢
  have hy0 : 0 ≤ z := by omega
  have hy1 : z < 65536 := by omega
  have hy2 : z < 4294967296 := by omega
  have hz := hid hz
  have hnn := hid hn
  clear hn
  have hg := hid (get_short b h4)
  obtain ⟨i0, hi0, hz0, hz1, hz2⟩ := info_parts info_u8
  go_enter Try.func4, Try.ntmps4
  go_wp2_with fail
  refine (awake_yes _).mono ?_; rintro e w1 ⟨rfl, x1⟩
  have ha := ha.ext x1
  have hb := hb.ext x1
  have E := x1
  clear x1
  go_wp2_with fail
  refine (HP2.out _).mono ?_; rintro e w2 ⟨A2, c2, rfl, o2, x2⟩
  have ha := ha.ext x2
  have hb := hb.ext x2
  have E := ext_trans E x2
  go_wp2_with fail
  refine (copy_bytes ha (by omega)).mono ?_; rintro e w3 ⟨A3, c3, rfl, o3, x3⟩
  have gW : OwnG isU8 w3 w2.heap.size 5 1 A3 a.length c3 (a.map u8v) := o3
  have q : RdG w3 1 A2 2 c2 ((be 2 n).map u8v) := by have := o2.rd.ext x3; unfold Rd at this; rwa [be_length] at this
  go_wp2_with (first | ((with_reducible show wpList _ _ _ (⟨some 58, _, _, _, _, _⟩ :: _) _ _); refine wpList_append_g rfl (.tmp 56) (.tmp 57) 22 rfl w2.heap.size 5 i0 (.int .u8 0) 1 1 Try.underlying22 hi0 hz0 hz1 hz2 rfl (by decide) (by simp [Value.cells]; exact ⟨0, rfl⟩) (fun _ h => h.one) rfl gW rfl q (isU8_map _) (by omega) (by unfold maxLen; omega) x3.size ?_; intro B1 b1 V1 g1 r1 _; have y1 : Ext w2 V1 := ext_grown x3 r1 (fun b h => (gW.lt b h).1); have hb1 : RdG V1 1 B b.length cb (b.map u8v) := hb.ext y1) | ((with_reducible show wpList _ _ _ (⟨some 60, _, _, _, _, _⟩ :: _) _ _); refine wpList_append_g rfl (.tmp 58) (.tmp 59) 22 rfl w2.heap.size 5 i0 (.int .u8 0) 1 1 Try.underlying22 hi0 hz0 hz1 hz2 rfl (by decide) (by simp [Value.cells]; exact ⟨0, rfl⟩) (fun _ h => h.one) rfl g1 rfl hb1 (isU8_map _) (by omega) (by unfold maxLen; omega) y1.size ?_; intro B2 b2 V2 g2 r2 _; have y2 : Ext w2 V2 := ext_grown y1 r2 (fun b h => (g1.lt b h).1); have rr := rd_app g2.rd rfl (be_length 2 n) rfl))
  clear gW q g1 r1 hb1 y1 g2 r2 o3 x3
  have cg := octet_Get16 (l := a ++ be 2 n ++ b) a.length rr (by simp [be_length]; omega) (by omega)
  rw [get_put 2 n a b (by have := hnn.out; omega) (by decide), hz.out, show (a ++ be 2 n ++ b).length = a.length + 2 + b.length from by simp [be_length]; omega] at cg
  refine cg.mono ?_; rintro e w4 ⟨rfl, x4⟩
  have y2 := ext_trans y2 x4
  have ha := ha.ext y2
  have hb := hb.ext y2
  have E := ext_trans E y2
  clear cg rr x4 y2 o2 x2
  have ha := ha.ext (ext_alloc w4 (.cells #[.int .i64 0, .int .i64 0] 31))
  have hb := hb.ext (ext_alloc w4 (.cells #[.int .i64 0, .int .i64 0] 31))
  have E := ext_trans E (ext_alloc w4 (.cells #[.int .i64 0, .int .i64 0] 31))
  go_wp2_with fail
  refine (HP4.out _).mono ?_; rintro e w5 ⟨A5, c5, rfl, o5, x5⟩
  have ha := ha.ext x5
  have hb := hb.ext x5
  have E := ext_trans E x5
  go_wp2_with fail
  refine (copy_bytes ha (by omega)).mono ?_; rintro e w6 ⟨A6, c6, rfl, o6, x6⟩
  have gW : OwnG isU8 w6 w5.heap.size 5 1 A6 a.length c6 (a.map u8v) := o6
  have q : RdG w6 1 A5 4 c5 ((be 4 n).map u8v) := by have := o5.rd.ext x6; unfold Rd at this; rwa [be_length] at this
  go_wp2_with (first | ((with_reducible show wpList _ _ _ (⟨some 98, _, _, _, _, _⟩ :: _) _ _); refine wpList_append_g rfl (.tmp 96) (.tmp 97) 22 rfl w5.heap.size 5 i0 (.int .u8 0) 1 1 Try.underlying22 hi0 hz0 hz1 hz2 rfl (by decide) (by simp [Value.cells]; exact ⟨0, rfl⟩) (fun _ h => h.one) rfl gW rfl q (isU8_map _) (by omega) (by unfold maxLen; omega) x6.size ?_; intro B1 b1 V1 g1 r1 _; have y1 : Ext w5 V1 := ext_grown x6 r1 (fun b h => (gW.lt b h).1); have hb1 : RdG V1 1 B b.length cb (b.map u8v) := hb.ext y1) | ((with_reducible show wpList _ _ _ (⟨some 100, _, _, _, _, _⟩ :: _) _ _); refine wpList_append_g rfl (.tmp 98) (.tmp 99) 22 rfl w5.heap.size 5 i0 (.int .u8 0) 1 1 Try.underlying22 hi0 hz0 hz1 hz2 rfl (by decide) (by simp [Value.cells]; exact ⟨0, rfl⟩) (fun _ h => h.one) rfl g1 rfl hb1 (isU8_map _) (by omega) (by unfold maxLen; omega) y1.size ?_; intro B2 b2 V2 g2 r2 _; have y2 : Ext w5 V2 := ext_grown y1 r2 (fun b h => (g1.lt b h).1); have rr := rd_app g2.rd rfl (be_length 4 n) rfl))
  clear gW q g1 r1 hb1 y1 g2 r2 o6 x6
  have cg := octet_Get32 (l := a ++ be 4 n ++ b) a.length rr (by simp [be_length]; omega) (by omega)
  rw [get_put 4 n a b (by have := hnn.out; omega) (by decide), hz.out, show (a ++ be 4 n ++ b).length = a.length + 4 + b.length from by simp [be_length]; omega] at cg
  refine cg.mono ?_; rintro e w7 ⟨rfl, x7⟩
  have y2 := ext_trans y2 x7
  have ha := ha.ext y2
  have hb := hb.ext y2
  have E := ext_trans E y2
  clear cg rr x7 y2 o5 x5
  have ha := ha.ext (ext_alloc w7 (.cells #[.int .i64 0, .int .i64 0] 31))
  have hb := hb.ext (ext_alloc w7 (.cells #[.int .i64 0, .int .i64 0] 31))
  have E := ext_trans E (ext_alloc w7 (.cells #[.int .i64 0, .int .i64 0] 31))
  go_wp2_with fail
  refine (octet_Get32 0 hb (by omega) (by decide)).mono ?_; rintro e w8 ⟨rfl, x8⟩
  rw [hg.out]
  have E := ext_trans (ext_trans E x8) (ext_alloc w8 (.cells #[.int .i64 4, .int .i64 b.length] 31))
  clear x8 ha hb hg
  go_wp2_with fail
  go_ret
  exact ⟨rfl, E⟩

set_option maxRecDepth 100000 in
set_option maxHeartbeats 4000000 in
theorem back_by {A B : Option Addr} {ca cb : Nat} {a b : List UInt8} (n : Nat) (w : World) (ha : Rd w A ca a) (hb : Rd w B cb b) (hla : ¬ 100 < a.length) (hlb : ¬ 100 < b.length) (hn : n < 4294967296) (hn2 : ¬ n < 65536) (h4 : 4 ≤ b.length) :
    Calls Try.prog 4 #[.int .i64 n, .slice A a.length ca, .slice B b.length cb] w fun e w' => e = .returned (.bool true) ∧ Below w.heap.size w w' := by
  have HP2 := hid (fun W => octet_Put16 n W)
  have HP4 := hid (fun W => octet_Put32 n W)
  rw [putS_no 2 n (by omega)] at HP2
  rw [putS_yes 4 n (by omega)] at HP4
  simp only [be_length] at HP4
  obtain ⟨z, hz⟩ : ∃ z : Int, (n : Int) = z := ⟨_, rfl⟩
  rw [hz] at HP2 HP4 ⊢
  have hy0 : 0 ≤ z := by omega
  have hy1 : ¬ z < 65536 := by omega
  have hy2 : z < 4294967296 := by omega
  have hz := hid hz
  have hnn := hid hn
  clear hn
  have hg : getS b 0 4 = (((num (b.take 4) : Nat) : Int), 4, 0, 0) := get_behind b 0 4 (by omega)
  have hg1 : getS b 0 2 = (((num (b.take 2) : Nat) : Int), 2, 0, 0) := get_behind b 0 2 (by omega)
  have hg2 : getS b 2 2 = (((num ((b.drop 2).take 2) : Nat) : Int), 4, 0, 0) := get_behind b 2 2 (by omega)
  have h2 := num_two b h4
  have h5 := num_lt4 b
  have hbe := be_num 4 (b.take 4) (by simp; omega)
  have HQ := hid (fun W => octet_Put32 (num (b.take 4) : Nat) W)
  rw [putS_yes 4 _ h5] at HQ
  simp only [be_length] at HQ
  rw [hbe] at HQ
  obtain ⟨q, hq⟩ : ∃ q : Int, (num (b.take 4) : Int) = q := ⟨_, rfl⟩
  obtain ⟨q1, hq1⟩ : ∃ q : Int, (num (b.take 2) : Int) = q := ⟨_, rfl⟩
  obtain ⟨q2, hq2⟩ : ∃ q : Int, (num ((b.drop 2).take 2) : Int) = q := ⟨_, rfl⟩
  have hqq : q = 65536 * q1 + q2 := by omega
  have hqa : 0 ≤ q1 := by omega
  have hqb : 0 ≤ q2 := by omega
  have hqc : q1 ≤ 65535 := by omega
  have hqd : q2 ≤ 4294967295 := by omega
  rw [hq, hqq] at hg HQ
  rw [hq1] at hg1
  rw [hq2] at hg2
  clear hq hq1 hq2 h2 h5 hbe hqq q
  have hg := hid hg
  have hg1 := hid hg1
  have hg2 := hid hg2
  have hcb : ¬ cb = 0 := by have := hb.le; omega
  have hcb4 : (4 : Int) ≤ (cb : Int) := by have := hb.le; omega
  obtain ⟨i0, hi0, hz0, hz1, hz2⟩ := info_parts info_u8
  go_enter Try.func4, Try.ntmps4
  go_wp2_with fail
  refine (awake_yes _).mono ?_; rintro e w1 ⟨rfl, x1⟩
  have ha := ha.ext x1
  have hb := hb.ext x1
  have E := x1
  clear x1
  go_wp2_with fail
  refine (HP2.out _).mono ?_; rintro e w2 ⟨A2, c2, rfl, o2, x2⟩
  have ha := ha.ext x2
  have hb := hb.ext x2
  have E := ext_trans E x2
  clear o2 x2
  go_wp2_with fail
  refine (HP4.out _).mono ?_; rintro e w3 ⟨A3, c3, rfl, o3, x3⟩
  have ha := ha.ext x3
  have hb := hb.ext x3
  have E := ext_trans E x3
  go_wp2_with fail
  refine (copy_bytes ha (by omega)).mono ?_; rintro e w4 ⟨A4, c4, rfl, o4, x4⟩
  have gW : OwnG isU8 w4 w3.heap.size 5 1 A4 a.length c4 (a.map u8v) := o4
  have q : RdG w4 1 A3 4 c3 ((be 4 n).map u8v) := by have := o3.rd.ext x4; unfold Rd at this; rwa [be_length] at this
  go_wp2_with (first | ((with_reducible show wpList _ _ _ (⟨some 98, _, _, _, _, _⟩ :: _) _ _); refine wpList_append_g rfl (.tmp 96) (.tmp 97) 22 rfl w3.heap.size 5 i0 (.int .u8 0) 1 1 Try.underlying22 hi0 hz0 hz1 hz2 rfl (by decide) (by simp [Value.cells]; exact ⟨0, rfl⟩) (fun _ h => h.one) rfl gW rfl q (isU8_map _) (by omega) (by unfold maxLen; omega) x4.size ?_; intro B1 b1 V1 g1 r1 _; have y1 : Ext w3 V1 := ext_grown x4 r1 (fun b h => (gW.lt b h).1); have hb1 : RdG V1 1 B b.length cb (b.map u8v) := hb.ext y1) | ((with_reducible show wpList _ _ _ (⟨some 100, _, _, _, _, _⟩ :: _) _ _); refine wpList_append_g rfl (.tmp 98) (.tmp 99) 22 rfl w3.heap.size 5 i0 (.int .u8 0) 1 1 Try.underlying22 hi0 hz0 hz1 hz2 rfl (by decide) (by simp [Value.cells]; exact ⟨0, rfl⟩) (fun _ h => h.one) rfl g1 rfl hb1 (isU8_map _) (by omega) (by unfold maxLen; omega) y1.size ?_; intro B2 b2 V2 g2 r2 _; have y2 : Ext w3 V2 := ext_grown y1 r2 (fun b h => (g1.lt b h).1); have rr := rd_app g2.rd rfl (be_length 4 n) rfl))
  clear gW q g1 r1 hb1 y1 g2 r2 o4 x4
  have cg := octet_Get32 (l := a ++ be 4 n ++ b) a.length rr (by simp [be_length]; omega) (by omega)
  rw [get_put 4 n a b (by have := hnn.out; omega) (by decide), hz.out, show (a ++ be 4 n ++ b).length = a.length + 4 + b.length from by simp [be_length]; omega] at cg
  refine cg.mono ?_; rintro e w5 ⟨rfl, x5⟩
  have y2 := ext_trans y2 x5
  have ha := ha.ext y2
  have hb := hb.ext y2
  have E := ext_trans E y2
  clear cg rr x5 y2 o3 x3
  have ha := ha.ext (ext_alloc w5 (.cells #[.int .i64 0, .int .i64 0] 31))
  have hb := hb.ext (ext_alloc w5 (.cells #[.int .i64 0, .int .i64 0] 31))
  have E := ext_trans E (ext_alloc w5 (.cells #[.int .i64 0, .int .i64 0] 31))
  go_wp2_with fail
  refine (octet_Get32 0 hb (by omega) (by decide)).mono ?_; rintro e w6 ⟨rfl, x6⟩
  rw [hg.out]
  have hb := (hb.ext x6).ext (ext_alloc w6 (.cells #[.int .i64 0, .int .i64 0] 31))
  have E := ext_trans (ext_trans E x6) (ext_alloc w6 (.cells #[.int .i64 0, .int .i64 0] 31))
  clear x6 ha hg
  go_wp2_with fail
  refine (HQ.out _).mono ?_; rintro e w7 ⟨A7, c7, rfl, o7, x7⟩
  have hb := hb.ext x7
  have E := ext_trans E x7
  clear x7
  have oq := o7.rd
  go_wp2_with fail
  have cg := octet_Get16 0 hb (by omega) (by decide)
  rw [hg1.out] at cg
  refine cg.mono ?_; rintro e w8 ⟨rfl, x8⟩
  have hb := (hb.ext x8).ext (ext_alloc w8 (.cells #[.int .i64 0, .int .i64 0] 31))
  have oq := (oq.ext x8).ext (ext_alloc w8 (.cells #[.int .i64 0, .int .i64 0] 31))
  have E := ext_trans (ext_trans E x8) (ext_alloc w8 (.cells #[.int .i64 0, .int .i64 0] 31))
  clear x8 cg
  go_wp2_with fail
  have cg := octet_Get16 2 hb (by omega) (by decide)
  rw [hg2.out] at cg
  refine cg.mono ?_; rintro e w9 ⟨rfl, x9⟩
  have hb := (hb.ext x9).ext (ext_alloc w9 (.cells #[.int .i64 0, .int .i64 0] 31))
  have oq := (oq.ext x9).ext (ext_alloc w9 (.cells #[.int .i64 0, .int .i64 0] 31))
  have E := ext_trans (ext_trans E x9) (ext_alloc w9 (.cells #[.int .i64 0, .int .i64 0] 31))
  clear x9 cg
  go_wp2_with fail
  have hcut := hb.cut (i := 0) (j := 4) (by omega) h4 (A' := B) (fun _ => by cases B <;> simp [Addr.add])
  rw [List.drop_zero, Nat.sub_zero] at hcut
  have oq' := oq
  refine (same_yes (a := b.take 4) oq' hcut (by simp; omega)).mono ?_; rintro e wz ⟨rfl, rfl⟩
  go_wp2_with fail
  go_ret
  exact ⟨rfl, E⟩

set_option maxRecDepth 100000 in
set_option maxHeartbeats 4000000 in
theorem back_bn {A B : Option Addr} {ca cb : Nat} {a b : List UInt8} (n : Nat) (w : World) (ha : Rd w A ca a) (hb : Rd w B cb b) (hla : ¬ 100 < a.length) (hlb : ¬ 100 < b.length) (hn : n < 4294967296) (hn2 : ¬ n < 65536) (h4 : ¬ 4 ≤ b.length) :
    Calls Try.prog 4 #[.int .i64 n, .slice A a.length ca, .slice B b.length cb] w fun e w' => e = .returned (.bool true) ∧ Below w.heap.size w w' := by
  have HP2 := hid (fun W => octet_Put16 n W)
  have HP4 := hid (fun W => octet_Put32 n W)
  rw [putS_no 2 n (by omega)] at HP2
  rw [putS_yes 4 n (by omega)] at HP4
  simp only [be_length] at HP4
  obtain ⟨z, hz⟩ : ∃ z : Int, (n : Int) = z := ⟨_, rfl⟩
  rw [hz] at HP2 HP4 ⊢
  have hy0 : 0 ≤ z := by omega
  have hy1 : ¬ z < 65536 := by omega
  have hy2 : z < 4294967296 := by omega
  have hz := hid hz
  have hnn := hid hn
  clear hn
  have hg := hid (get_short b h4)
  obtain ⟨i0, hi0, hz0, hz1, hz2⟩ := info_parts info_u8
  go_enter Try.func4, Try.ntmps4
  go_wp2_with fail
  refine (awake_yes _).mono ?_; rintro e w1 ⟨rfl, x1⟩
  have ha := ha.ext x1
  have hb := hb.ext x1
  have E := x1
  clear x1
  go_wp2_with fail
  refine (HP2.out _).mono ?_; rintro e w2 ⟨A2, c2, rfl, o2, x2⟩
  have ha := ha.ext x2
  have hb := hb.ext x2
  have E := ext_trans E x2
  clear o2 x2
  go_wp2_with fail
  refine (HP4.out _).mono ?_; rintro e w3 ⟨A3, c3, rfl, o3, x3⟩
  have ha := ha.ext x3
  have hb := hb.ext x3
  have E := ext_trans E x3
  go_wp2_with fail
  refine (copy_bytes ha (by omega)).mono ?_; rintro e w4 ⟨A4, c4, rfl, o4, x4⟩
  have gW : OwnG isU8 w4 w3.heap.size 5 1 A4 a.length c4 (a.map u8v) := o4
  have q : RdG w4 1 A3 4 c3 ((be 4 n).map u8v) := by have := o3.rd.ext x4; unfold Rd at this; rwa [be_length] at this
  go_wp2_with (first | ((with_reducible show wpList _ _ _ (⟨some 98, _, _, _, _, _⟩ :: _) _ _); refine wpList_append_g rfl (.tmp 96) (.tmp 97) 22 rfl w3.heap.size 5 i0 (.int .u8 0) 1 1 Try.underlying22 hi0 hz0 hz1 hz2 rfl (by decide) (by simp [Value.cells]; exact ⟨0, rfl⟩) (fun _ h => h.one) rfl gW rfl q (isU8_map _) (by omega) (by unfold maxLen; omega) x4.size ?_; intro B1 b1 V1 g1 r1 _; have y1 : Ext w3 V1 := ext_grown x4 r1 (fun b h => (gW.lt b h).1); have hb1 : RdG V1 1 B b.length cb (b.map u8v) := hb.ext y1) | ((with_reducible show wpList _ _ _ (⟨some 100, _, _, _, _, _⟩ :: _) _ _); refine wpList_append_g rfl (.tmp 98) (.tmp 99) 22 rfl w3.heap.size 5 i0 (.int .u8 0) 1 1 Try.underlying22 hi0 hz0 hz1 hz2 rfl (by decide) (by simp [Value.cells]; exact ⟨0, rfl⟩) (fun _ h => h.one) rfl g1 rfl hb1 (isU8_map _) (by omega) (by unfold maxLen; omega) y1.size ?_; intro B2 b2 V2 g2 r2 _; have y2 : Ext w3 V2 := ext_grown y1 r2 (fun b h => (g1.lt b h).1); have rr := rd_app g2.rd rfl (be_length 4 n) rfl))
  clear gW q g1 r1 hb1 y1 g2 r2 o4 x4
  have cg := octet_Get32 (l := a ++ be 4 n ++ b) a.length rr (by simp [be_length]; omega) (by omega)
  rw [get_put 4 n a b (by have := hnn.out; omega) (by decide), hz.out, show (a ++ be 4 n ++ b).length = a.length + 4 + b.length from by simp [be_length]; omega] at cg
  refine cg.mono ?_; rintro e w5 ⟨rfl, x5⟩
  have y2 := ext_trans y2 x5
  have ha := ha.ext y2
  have hb := hb.ext y2
  have E := ext_trans E y2
  clear cg rr x5 y2 o3 x3
  have ha := ha.ext (ext_alloc w5 (.cells #[.int .i64 0, .int .i64 0] 31))
  have hb := hb.ext (ext_alloc w5 (.cells #[.int .i64 0, .int .i64 0] 31))
  have E := ext_trans E (ext_alloc w5 (.cells #[.int .i64 0, .int .i64 0] 31))
  go_wp2_with fail
  refine (octet_Get32 0 hb (by omega) (by decide)).mono ?_; rintro e w6 ⟨rfl, x6⟩
  rw [hg.out]
  have E := ext_trans (ext_trans E x6) (ext_alloc w6 (.cells #[.int .i64 4, .int .i64 b.length] 31))
  clear x6 ha hb hg
  go_wp2_with fail
  go_ret
  exact ⟨rfl, E⟩

set_option maxRecDepth 100000 in
set_option maxHeartbeats 4000000 in
theorem back_cy {A B : Option Addr} {ca cb : Nat} {a b : List UInt8} (n : Int) (w : World) (ha : Rd w A ca a) (hb : Rd w B cb b) (hla : ¬ 100 < a.length) (hlb : ¬ 100 < b.length) (hn : n < 0) (h4 : 4 ≤ b.length) :
    Calls Try.prog 4 #[.int .i64 n, .slice A a.length ca, .slice B b.length cb] w fun e w' => e = .returned (.bool true) ∧ Below w.heap.size w w' := by
  have HP2 := hid (fun W => octet_Put16 n W)
  have HP4 := hid (fun W => octet_Put32 n W)
  rw [putS_no 2 n (by omega)] at HP2
  rw [putS_no 4 n (by omega)] at HP4
  have hg : getS b 0 4 = (((num (b.take 4) : Nat) : Int), 4, 0, 0) := get_behind b 0 4 (by omega)
  have hg1 : getS b 0 2 = (((num (b.take 2) : Nat) : Int), 2, 0, 0) := get_behind b 0 2 (by omega)
  have hg2 : getS b 2 2 = (((num ((b.drop 2).take 2) : Nat) : Int), 4, 0, 0) := get_behind b 2 2 (by omega)
  have h2 := num_two b h4
  have h5 := num_lt4 b
  have hbe := be_num 4 (b.take 4) (by simp; omega)
  have HQ := hid (fun W => octet_Put32 (num (b.take 4) : Nat) W)
  rw [putS_yes 4 _ h5] at HQ
  simp only [be_length] at HQ
  rw [hbe] at HQ
  obtain ⟨q, hq⟩ : ∃ q : Int, (num (b.take 4) : Int) = q := ⟨_, rfl⟩
  obtain ⟨q1, hq1⟩ : ∃ q : Int, (num (b.take 2) : Int) = q := ⟨_, rfl⟩
  obtain ⟨q2, hq2⟩ : ∃ q : Int, (num ((b.drop 2).take 2) : Int) = q := ⟨_, rfl⟩
  have hqq : q = 65536 * q1 + q2 := by omega
  have hqa : 0 ≤ q1 := by omega
  have hqb : 0 ≤ q2 := by omega
  have hqc : q1 ≤ 65535 := by omega
  have hqd : q2 ≤ 4294967295 := by omega
  rw [hq, hqq] at hg HQ
  rw [hq1] at hg1
  rw [hq2] at hg2
  clear hq hq1 hq2 h2 h5 hbe hqq q
  have hg := hid hg
  have hg1 := hid hg1
  have hg2 := hid hg2
  have hcb : ¬ cb = 0 := by have := hb.le; omega
  have hcb4 : (4 : Int) ≤ (cb : Int) := by have := hb.le; omega
  obtain ⟨i0, hi0, hz0, hz1, hz2⟩ := info_parts info_u8
  go_enter Try.func4, Try.ntmps4
  go_wp2_with fail
  refine (awake_yes _).mono ?_; rintro e w1 ⟨rfl, x1⟩
  have ha := ha.ext x1
  have hb := hb.ext x1
  have E := x1
  clear x1
  go_wp2_with fail
  refine (HP2.out _).mono ?_; rintro e w2 ⟨A2, c2, rfl, o2, x2⟩
  have ha := ha.ext x2
  have hb := hb.ext x2
  have E := ext_trans E x2
  clear o2 x2
  go_wp2_with fail
  refine (HP4.out _).mono ?_; rintro e w3 ⟨A3, c3, rfl, o3, x3⟩
  have ha := ha.ext x3
  have hb := hb.ext x3
  have E := ext_trans E x3
  clear o3 x3
  go_wp2_with fail
  refine (octet_Get32 0 hb (by omega) (by decide)).mono ?_; rintro e w4 ⟨rfl, x4⟩
  rw [hg.out]
  have hb := (hb.ext x4).ext (ext_alloc w4 (.cells #[.int .i64 0, .int .i64 0] 31))
  have E := ext_trans (ext_trans E x4) (ext_alloc w4 (.cells #[.int .i64 0, .int .i64 0] 31))
  clear x4 ha hg
  go_wp2_with fail
  refine (HQ.out _).mono ?_; rintro e w5 ⟨A5, c5, rfl, o5, x5⟩
  have hb := hb.ext x5
  have E := ext_trans E x5
  clear x5
  have oq := o5.rd
  go_wp2_with fail
  have cg := octet_Get16 0 hb (by omega) (by decide)
  rw [hg1.out] at cg
  refine cg.mono ?_; rintro e w6 ⟨rfl, x6⟩
  have hb := (hb.ext x6).ext (ext_alloc w6 (.cells #[.int .i64 0, .int .i64 0] 31))
  have oq := (oq.ext x6).ext (ext_alloc w6 (.cells #[.int .i64 0, .int .i64 0] 31))
  have E := ext_trans (ext_trans E x6) (ext_alloc w6 (.cells #[.int .i64 0, .int .i64 0] 31))
  clear x6 cg
  go_wp2_with fail
  have cg := octet_Get16 2 hb (by omega) (by decide)
  rw [hg2.out] at cg
  refine cg.mono ?_; rintro e w7 ⟨rfl, x7⟩
  have hb := (hb.ext x7).ext (ext_alloc w7 (.cells #[.int .i64 0, .int .i64 0] 31))
  have oq := (oq.ext x7).ext (ext_alloc w7 (.cells #[.int .i64 0, .int .i64 0] 31))
  have E := ext_trans (ext_trans E x7) (ext_alloc w7 (.cells #[.int .i64 0, .int .i64 0] 31))
  clear x7 cg
  go_wp2_with fail
  have hcut := hb.cut (i := 0) (j := 4) (by omega) h4 (A' := B) (fun _ => by cases B <;> simp [Addr.add])
  rw [List.drop_zero, Nat.sub_zero] at hcut
  have oq' := oq
  refine (same_yes (a := b.take 4) oq' hcut (by simp; omega)).mono ?_; rintro e wz ⟨rfl, rfl⟩
  go_wp2_with fail
  go_ret
  exact ⟨rfl, E⟩

set_option maxRecDepth 100000 in
set_option maxHeartbeats 4000000 in
theorem back_cn {A B : Option Addr} {ca cb : Nat} {a b : List UInt8} (n : Int) (w : World) (ha : Rd w A ca a) (hb : Rd w B cb b) (hla : ¬ 100 < a.length) (hlb : ¬ 100 < b.length) (hn : n < 0) (h4 : ¬ 4 ≤ b.length) :
    Calls Try.prog 4 #[.int .i64 n, .slice A a.length ca, .slice B b.length cb] w fun e w' => e = .returned (.bool true) ∧ Below w.heap.size w w' := by
  have HP2 := hid (fun W => octet_Put16 n W)
  have HP4 := hid (fun W => octet_Put32 n W)
  rw [putS_no 2 n (by omega)] at HP2
  rw [putS_no 4 n (by omega)] at HP4
  have hg := hid (get_short b h4)
  obtain ⟨i0, hi0, hz0, hz1, hz2⟩ := info_parts info_u8
  go_enter Try.func4, Try.ntmps4
  go_wp2_with fail
  refine (awake_yes _).mono ?_; rintro e w1 ⟨rfl, x1⟩
  have ha := ha.ext x1
  have hb := hb.ext x1
  have E := x1
  clear x1
  go_wp2_with fail
  refine (HP2.out _).mono ?_; rintro e w2 ⟨A2, c2, rfl, o2, x2⟩
  have ha := ha.ext x2
  have hb := hb.ext x2
  have E := ext_trans E x2
  clear o2 x2
  go_wp2_with fail
  refine (HP4.out _).mono ?_; rintro e w3 ⟨A3, c3, rfl, o3, x3⟩
  have ha := ha.ext x3
  have hb := hb.ext x3
  have E := ext_trans E x3
  clear o3 x3
  go_wp2_with fail
  refine (octet_Get32 0 hb (by omega) (by decide)).mono ?_; rintro e w4 ⟨rfl, x4⟩
  rw [hg.out]
  have E := ext_trans (ext_trans E x4) (ext_alloc w4 (.cells #[.int .i64 4, .int .i64 b.length] 31))
  clear x4 ha hb hg
  go_wp2_with fail
  go_ret
  exact ⟨rfl, E⟩

set_option maxRecDepth 100000 in
set_option maxHeartbeats 4000000 in
theorem back_dy {A B : Option Addr} {ca cb : Nat} {a b : List UInt8} (n : Int) (w : World) (ha : Rd w A ca a) (hb : Rd w B cb b) (hla : ¬ 100 < a.length) (hlb : ¬ 100 < b.length) (hn : 4294967296 ≤ n) (h4 : 4 ≤ b.length) :
    Calls Try.prog 4 #[.int .i64 n, .slice A a.length ca, .slice B b.length cb] w fun e w' => e = .returned (.bool true) ∧ Below w.heap.size w w' := by
  have HP2 := hid (fun W => octet_Put16 n W)
  have HP4 := hid (fun W => octet_Put32 n W)
  rw [putS_no 2 n (by omega)] at HP2
  rw [putS_no 4 n (by omega)] at HP4
  have hg : getS b 0 4 = (((num (b.take 4) : Nat) : Int), 4, 0, 0) := get_behind b 0 4 (by omega)
  have hg1 : getS b 0 2 = (((num (b.take 2) : Nat) : Int), 2, 0, 0) := get_behind b 0 2 (by omega)
  have hg2 : getS b 2 2 = (((num ((b.drop 2).take 2) : Nat) : Int), 4, 0, 0) := get_behind b 2 2 (by omega)
  have h2 := num_two b h4
  have h5 := num_lt4 b
  have hbe := be_num 4 (b.take 4) (by simp; omega)
  have HQ := hid (fun W => octet_Put32 (num (b.take 4) : Nat) W)
  rw [putS_yes 4 _ h5] at HQ
  simp only [be_length] at HQ
  rw [hbe] at HQ
  obtain ⟨q, hq⟩ : ∃ q : Int, (num (b.take 4) : Int) = q := ⟨_, rfl⟩
  obtain ⟨q1, hq1⟩ : ∃ q : Int, (num (b.take 2) : Int) = q := ⟨_, rfl⟩
  obtain ⟨q2, hq2⟩ : ∃ q : Int, (num ((b.drop 2).take 2) : Int) = q := ⟨_, rfl⟩
  have hqq : q = 65536 * q1 + q2 := by omega
  have hqa : 0 ≤ q1 := by omega
  have hqb : 0 ≤ q2 := by omega
  have hqc : q1 ≤ 65535 := by omega
  have hqd : q2 ≤ 4294967295 := by omega
  rw [hq, hqq] at hg HQ
  rw [hq1] at hg1
  rw [hq2] at hg2
  clear hq hq1 hq2 h2 h5 hbe hqq q
  have hg := hid hg
  have hg1 := hid hg1
  have hg2 := hid hg2
  have hcb : ¬ cb = 0 := by have := hb.le; omega
  have hcb4 : (4 : Int) ≤ (cb : Int) := by have := hb.le; omega
  obtain ⟨i0, hi0, hz0, hz1, hz2⟩ := info_parts info_u8
  go_enter Try.func4, Try.ntmps4
  go_wp2_with fail
  refine (awake_yes _).mono ?_; rintro e w1 ⟨rfl, x1⟩
  have ha := ha.ext x1
  have hb := hb.ext x1
  have E := x1
  clear x1
  go_wp2_with fail
  refine (HP2.out _).mono ?_; rintro e w2 ⟨A2, c2, rfl, o2, x2⟩
  have ha := ha.ext x2
  have hb := hb.ext x2
  have E := ext_trans E x2
  clear o2 x2
  go_wp2_with fail
  refine (HP4.out _).mono ?_; rintro e w3 ⟨A3, c3, rfl, o3, x3⟩
  have ha := ha.ext x3
  have hb := hb.ext x3
  have E := ext_trans E x3
  clear o3 x3
  go_wp2_with fail
  refine (octet_Get32 0 hb (by omega) (by decide)).mono ?_; rintro e w4 ⟨rfl, x4⟩
  rw [hg.out]
  have hb := (hb.ext x4).ext (ext_alloc w4 (.cells #[.int .i64 0, .int .i64 0] 31))
  have E := ext_trans (ext_trans E x4) (ext_alloc w4 (.cells #[.int .i64 0, .int .i64 0] 31))
  clear x4 ha hg
  go_wp2_with fail
  refine (HQ.out _).mono ?_; rintro e w5 ⟨A5, c5, rfl, o5, x5⟩
  have hb := hb.ext x5
  have E := ext_trans E x5
  clear x5
  have oq := o5.rd
  go_wp2_with fail
  have cg := octet_Get16 0 hb (by omega) (by decide)
  rw [hg1.out] at cg
  refine cg.mono ?_; rintro e w6 ⟨rfl, x6⟩
  have hb := (hb.ext x6).ext (ext_alloc w6 (.cells #[.int .i64 0, .int .i64 0] 31))
  have oq := (oq.ext x6).ext (ext_alloc w6 (.cells #[.int .i64 0, .int .i64 0] 31))
  have E := ext_trans (ext_trans E x6) (ext_alloc w6 (.cells #[.int .i64 0, .int .i64 0] 31))
  clear x6 cg
  go_wp2_with fail
  have cg := octet_Get16 2 hb (by omega) (by decide)
  rw [hg2.out] at cg
  refine cg.mono ?_; rintro e w7 ⟨rfl, x7⟩
  have hb := (hb.ext x7).ext (ext_alloc w7 (.cells #[.int .i64 0, .int .i64 0] 31))
  have oq := (oq.ext x7).ext (ext_alloc w7 (.cells #[.int .i64 0, .int .i64 0] 31))
  have E := ext_trans (ext_trans E x7) (ext_alloc w7 (.cells #[.int .i64 0, .int .i64 0] 31))
  clear x7 cg
  go_wp2_with fail
  have hcut := hb.cut (i := 0) (j := 4) (by omega) h4 (A' := B) (fun _ => by cases B <;> simp [Addr.add])
  rw [List.drop_zero, Nat.sub_zero] at hcut
  have oq' := oq
  refine (same_yes (a := b.take 4) oq' hcut (by simp; omega)).mono ?_; rintro e wz ⟨rfl, rfl⟩
  go_wp2_with fail
  go_ret
  exact ⟨rfl, E⟩

set_option maxRecDepth 100000 in
set_option maxHeartbeats 4000000 in
theorem back_dn {A B : Option Addr} {ca cb : Nat} {a b : List UInt8} (n : Int) (w : World) (ha : Rd w A ca a) (hb : Rd w B cb b) (hla : ¬ 100 < a.length) (hlb : ¬ 100 < b.length) (hn : 4294967296 ≤ n) (h4 : ¬ 4 ≤ b.length) :
    Calls Try.prog 4 #[.int .i64 n, .slice A a.length ca, .slice B b.length cb] w fun e w' => e = .returned (.bool true) ∧ Below w.heap.size w w' := by
  have HP2 := hid (fun W => octet_Put16 n W)
  have HP4 := hid (fun W => octet_Put32 n W)
  rw [putS_no 2 n (by omega)] at HP2
  rw [putS_no 4 n (by omega)] at HP4
  have hg := hid (get_short b h4)
  obtain ⟨i0, hi0, hz0, hz1, hz2⟩ := info_parts info_u8
  go_enter Try.func4, Try.ntmps4
  go_wp2_with fail
  refine (awake_yes _).mono ?_; rintro e w1 ⟨rfl, x1⟩
  have ha := ha.ext x1
  have hb := hb.ext x1
  have E := x1
  clear x1
  go_wp2_with fail
  refine (HP2.out _).mono ?_; rintro e w2 ⟨A2, c2, rfl, o2, x2⟩
  have ha := ha.ext x2
  have hb := hb.ext x2
  have E := ext_trans E x2
  clear o2 x2
  go_wp2_with fail
  refine (HP4.out _).mono ?_; rintro e w3 ⟨A3, c3, rfl, o3, x3⟩
  have ha := ha.ext x3
  have hb := hb.ext x3
  have E := ext_trans E x3
  clear o3 x3
  go_wp2_with fail
  refine (octet_Get32 0 hb (by omega) (by decide)).mono ?_; rintro e w4 ⟨rfl, x4⟩
  rw [hg.out]
  have E := ext_trans (ext_trans E x4) (ext_alloc w4 (.cells #[.int .i64 4, .int .i64 b.length] 31))
  clear x4 ha hb hg
  go_wp2_with fail
  go_ret
  exact ⟨rfl, E⟩

set_option maxRecDepth 100000 in
set_option maxHeartbeats 4000000 in
theorem back_long1 {A B : Option Addr} {ca cb : Nat} {a b : List UInt8} (n : Int) (w : World) (ha : Rd w A ca a) (hb : Rd w B cb b) (hla : 100 < a.length) :
    Calls Try.prog 4 #[.int .i64 n, .slice A a.length ca, .slice B b.length cb] w fun e w' => e = .returned (.bool true) ∧ Below w.heap.size w w' := by
  go_enter Try.func4, Try.ntmps4
  go_wp2_with fail
  refine (awake_yes _).mono ?_; rintro e w1 ⟨rfl, x1⟩
  go_wp2_with fail
  go_ret
  exact ⟨rfl, x1⟩

set_option maxRecDepth 100000 in
set_option maxHeartbeats 4000000 in
theorem back_long2 {A B : Option Addr} {ca cb : Nat} {a b : List UInt8} (n : Int) (w : World) (ha : Rd w A ca a) (hb : Rd w B cb b) (hla : ¬ 100 < a.length) (hlb : 100 < b.length) :
    Calls Try.prog 4 #[.int .i64 n, .slice A a.length ca, .slice B b.length cb] w fun e w' => e = .returned (.bool true) ∧ Below w.heap.size w w' := by
  go_enter Try.func4, Try.ntmps4
  go_wp2_with fail
  refine (awake_yes _).mono ?_; rintro e w1 ⟨rfl, x1⟩
  go_wp2_with fail
  go_ret
  exact ⟨rfl, x1⟩

theorem back_walk {A B : Option Addr} {ca cb : Nat} {a b : List UInt8} (n : Int) (w : World) (hn : -9223372036854775808 ≤ n ∧ n ≤ 9223372036854775807) (ha : Rd w A ca a) (hb : Rd w B cb b) :
    Calls Try.prog 4 #[.int .i64 n, .slice A a.length ca, .slice B b.length cb] w fun e w' => e = .returned (.bool true) ∧ Below w.heap.size w w' := by
  by_cases hla : 100 < a.length
  · exact back_long1 n w ha hb hla
  by_cases hlb : 100 < b.length
  · exact back_long2 n w ha hb hla hlb
  by_cases h4 : 4 ≤ b.length
  · by_cases h1 : n < 0
    · exact back_cy n w ha hb hla hlb h1 h4
    by_cases h2 : 4294967296 ≤ n
    · exact back_dy n w ha hb hla hlb h2 h4
    obtain ⟨m, rfl⟩ : ∃ m : Nat, n = (m : Int) := ⟨n.toNat, by omega⟩
    by_cases h3 : m < 65536
    · exact back_ay m w ha hb hla hlb h3 h4
    · exact back_by m w ha hb hla hlb (by omega) h3 h4
  · by_cases h1 : n < 0
    · exact back_cn n w ha hb hla hlb h1 h4
    by_cases h2 : 4294967296 ≤ n
    · exact back_dn n w ha hb hla hlb h2 h4
    obtain ⟨m, rfl⟩ : ∃ m : Nat, n = (m : Int) := ⟨n.toNat, by omega⟩
    by_cases h3 : m < 65536
    · exact back_an m w ha hb hla hlb h3 h4
    · exact back_bn m w ha hb hla hlb (by omega) h3 h4

end Go.Proofs.Ytcbfpillplhgnaa

/- The contracts of the small functions that the statements share (copies, comparisons, lists that are lent). -/
import Derived.Test.YtcbfpillplhgnaaRows
import Derived.Test.YtcbfpillplhgnaaKitA
import Derived.Deep.RegionWith
import Derived.BigQuiet
import Derived.Handy
namespace Go.Proofs.Ytcbfpillplhgnaa
open Go.BK Go.RowKit
set_option linter.unusedVariables false

theorem info_u8 : (Try.prog.info? 5).map (fun i => (i.zero, i.size, i.bytes)) = some (some (.int .u8 0), 1, 1) := by kernel_rfl

theorem bcell {W w1 : World} (hb : Below W.heap.size W w1) : (∀ b o, b < W.heap.size → w1.cell? ⟨b, o, none⟩ = W.cell? ⟨b, o, none⟩) ∧ (∀ b o, b < W.heap.size → w1.frozen? ⟨b, o, none⟩ = W.frozen? ⟨b, o, none⟩) :=
  ⟨fun b o h => hb.cell (p := ⟨b, o, none⟩) h, fun b o h => hb.frozen (p := ⟨b, o, none⟩) h⟩

theorem ret_bool {a b : Bool} (h : a = b) : Ending.returned (.bool a) = .returned (.bool b) := by rw [h]
theorem ret_int {k : IntKind} {a b : Int} (h : a = b) : Ending.returned (.int k a) = .returned (.int k b) := by rw [h]

set_option maxHeartbeats 400000 in
/-- SameBytes: whether two lists of bytes are the same. -/
theorem same_bytes {A B : Option Addr} {ca cb : Nat} {a b : List UInt8} {w : World} (ha : Rd w A ca a) (hb : Rd w B cb b) :
    Calls Try.prog 12 #[.slice A a.length ca, .slice B b.length cb] w fun e w' => e = .returned (.bool (a == b)) ∧ w = w' := by
  have h1 := run_convert_rd (P := Try.prog) ha 22 5 Try.underlying22 Try.underlying5 9 Try.underlying9
  have h2 := run_convert_rd (P := Try.prog) hb 22 5 Try.underlying22 Try.underlying5 9 Try.underlying9
  clear ha hb
  go_enter Try.func12, Try.ntmps12
  go_wp2
  go_ret
  exact ⟨ret_bool rfl, rfl⟩

set_option maxHeartbeats 400000 in
/-- CopyBytes: the same bytes in memory of the call's own. -/
theorem copy_bytes {A : Option Addr} {c : Nat} {l : List UInt8} {w : World} (h : Rd w A c l) (hl : l.length ≤ 140737488355328) :
    Calls Try.prog 16 #[.slice A l.length c] w fun e w' => ∃ A' c', e = .returned (.slice A' l.length c') ∧ Own w' w.heap.size 5 A' c' l ∧ Ext w w' := by
  obtain ⟨i0, hi, hz0, hz1, hz2⟩ := info_parts info_u8
  have hown := OwnG.new (ok := isU8) (base := w.heap.size) (size := 1) (e := 5) w [] 0 0 (Nat.le_refl _) rfl (Nat.le_refl _) (by simp [maxLen]) (by simp)
  have hr : RdG (w.alloc (.cells #[] 5)) 1 A l.length c (l.map u8v) := RdG.ext h ((Below.refl _ _).alloc (Nat.le_refl _) _)
  have hE : Ext w (w.alloc (.cells #[] 5)) := (Below.refl _ _).alloc (Nat.le_refl _) _
  go_enter Try.func16, Try.ntmps16
  go_wp2_with (at_builtin; refine wpList_append_g rfl (.tmp 3) (.tmp 4) 22 rfl w.heap.size 5 i0 (.int .u8 0) 1 1 Try.underlying22 hi hz0 hz1 hz2 rfl (by decide) (by simp [Value.cells]; exact ⟨0, rfl⟩) (fun _ h => h.one) rfl hown rfl hr (isU8_map l) (by omega) (by unfold maxLen; omega) (by simp) ?_; intro A' c' w' hown' hg' _)
  go_ret
  refine ⟨A', c', ?_, ?_, ?_⟩
  · simp
  · simpa [Own] using hown'
  · exact hE.grown hg' (by simp) (by simp)

/-- Pick: a number from 0 on, below n. -/
def pick (x n : Int) : Int := if n < 1 then 0 else x % n
theorem pick_range (x n : Int) (h : 1 ≤ n) : 0 ≤ pick x n ∧ pick x n < n := by
  unfold pick
  rw [if_neg (by omega)]
  exact ⟨Int.emod_nonneg _ (by omega), Int.emod_lt_of_pos _ (by omega)⟩

set_option maxHeartbeats 400000 in
theorem pick_any (x n : Int) (w : World) (hx : -9223372036854775808 ≤ x ∧ x ≤ 9223372036854775807) (hn : n ≤ 9223372036854775807) :
    Calls Try.prog 18 #[.int .i64 x, .int .i64 n] w fun e w' => e = .returned (.int .i64 (pick x n)) ∧ w = w' := by
  by_cases h1 : n < 1
  · go_enter Try.func18, Try.ntmps18
    go_wp2
    go_ret
    exact ⟨ret_int (by unfold pick; rw [if_pos (by omega)]), rfl⟩
  · have hn0 : ¬ n = 0 := by omega
    have e1 : x % n = if x.tmod n < 0 then x.tmod n + n else x.tmod n := by
      rcases Int.lt_or_le x 0 with hx0 | hx0
      · have h2 := Int.tmod_eq_emod (a := x) (b := n)
        have h3 := Int.emod_nonneg x hn0
        have h4 := Int.emod_lt_of_pos x (show 0 < n by omega)
        rw [h2]
        split <;> split <;> omega
      · rw [Int.tmod_eq_emod_of_nonneg hx0]
        have h3 := Int.emod_nonneg x hn0
        rw [if_neg (by omega)]
    have hb : -n < x.tmod n ∧ x.tmod n < n := by
      have h2 := Int.tmod_eq_emod (a := x) (b := n)
      have h3 := Int.emod_nonneg x hn0
      have h4 := Int.emod_lt_of_pos x (show 0 < n by omega)
      have h5 : (n.natAbs : Int) = n := by omega
      rw [h2]
      split <;> omega
    obtain ⟨hb1, hb2⟩ := hb
    have hq : ¬ (x = -9223372036854775808 ∧ n = -1) := by omega
    have E1 := hid e1
    clear e1
    by_cases h2 : x.tmod n < 0
    · go_enter Try.func18, Try.ntmps18
      go_wp2
      go_ret
      exact ⟨ret_int (by unfold pick; rw [if_neg (by omega), E1.out, if_pos h2]), rfl⟩
    · go_enter Try.func18, Try.ntmps18
      go_wp2
      go_ret
      exact ⟨ret_int (by unfold pick; rw [if_neg (by omega), E1.out, if_neg (by omega)]), rfl⟩

/-- Block-wise bookkeeping for the cut 'b[:cap(b)]'. -/
theorem cap_cut (A : Option Addr) (c : Nat) : (if c = 0 then A else A.map (·.add 0)) = A := by split <;> simp [mapAdd_zero]

theorem xor_fin : ∀ n : Fin 256, bits .xor .u8 (n.val : Int) 90 = ((UInt8.ofNat n.val ^^^ 90).toNat : Int) := by decide +kernel
theorem xor_u8 (b : UInt8) : bits .xor .u8 (b.toNat : Int) 90 = ((b ^^^ 90).toNat : Int) := by
  have := xor_fin ⟨b.toNat, b.toNat_lt⟩
  simpa using this

set_option maxHeartbeats 1000000 in
/-- OverBytes: all is written over, the spare room too; nothing else is. -/
theorem over_bytes {A : Option Addr} {c base : Nat} {l : List UInt8} {w : World} (h : Own w base 5 A c l) :
    Calls Try.prog 13 #[.slice A l.length c] w fun e w' => e = .returned (.tuple #[]) ∧ w.grownBy w' (blk A) ∧ ∃ l', l'.length = l.length ∧ Own w' base 5 A c l' := by
  obtain ⟨full, hfull, hfl, htk, hfok⟩ := OwnG.full h
  obtain ⟨fl, rfl⟩ := u8v_list hfok
  simp only [List.length_map, Nat.mul_one] at hfl
  have hlc : l.length ≤ c := (OwnG.rd h).2.1
  have hc := (OwnG.rd h).c_le
  rcases Nat.eq_zero_or_pos c with h0 | h0
  · subst h0
    have hl0 : l = [] := List.eq_nil_of_length_eq_zero (by omega)
    subst hl0
    go_enter Try.func13, Try.ntmps13
    go_wp2
    refine wp_loop_rounds 1 ?_
    rw [rounds_succ]
    go_wp2
    go_end0
    exact ⟨rfl, grown_refl _ _, [], rfl, h⟩
  · obtain ⟨g, rfl, hbg, hg⟩ := hfull.head h0
    have hc0 : ¬ c = 0 := by omega
    go_enter Try.func13, Try.ntmps13
    go_wp2
    go_loopw [3] (fun i wr => ∃ k : Nat, k ≤ c ∧ i = .int .i64 k ∧ (∃ fl' : List UInt8, fl'.length = c ∧ Own wr base 5 (some ⟨g, 0, none⟩) c fl') ∧ w.grownBy wr (some g)) (fun i _ => c - (intOf i).toNat)
    case atStart => exact ⟨0, Nat.zero_le _, rfl, ⟨fl, hfl, by simpa [Own, hfl] using hfull⟩, grown_refl _ _⟩
    case round =>
      obtain ⟨k, hk, rfl, ⟨fl', hfl', hown⟩, hgr⟩ := hrel
      by_cases hlt : k < c
      · obtain ⟨b, hb⟩ : ∃ b : UInt8, b = fl'.getD k 0 := ⟨_, rfl⟩
        have hcell : wr.cell? ⟨g, k, none⟩ = some (.int .u8 b.toNat) := by
          obtain ⟨b', o, h1, _, h3⟩ := (Own.rd hown).at_ (k := k) (by omega)
          injection h1 with h1; injection h1 with h1 h2; subst h1; subst h2
          rw [hb]; simpa using h3
        have hfz : wr.frozen? ⟨g, k, none⟩ = false := OwnG.frozen hown rfl k
        have hx := xor_u8 b
        have hstep := OwnG.set (k := k) hown hlt (v := u8v (b ^^^ 90)) ⟨_, rfl⟩ rfl
        have hgs := grown_of_set (g := g) hgr (.inl rfl) k (u8v (b ^^^ 90))
        have HB := hid hb
        clear hb
        go_wp2
        go_roundw
        case rel => exact ⟨k + 1, by omega, by go_num, ⟨fl'.set k (b ^^^ 90), by simp [hfl'], by unfold Own; rw [List.length_set, List.map_set]; exact hstep⟩, hgs⟩
        case measure => simp [intOf]; omega
      · go_wp2
        go_end0
        refine ⟨rfl, hgr, fl'.take l.length, by simp; omega, ?_⟩
        have := OwnG.shrink hown l.length (by omega)
        unfold Own
        rw [List.map_take, List.length_take, hfl', Nat.min_eq_left hlc]
        simpa using this

/-- The marks behind a list that is lent. -/
def mk_ (i : Nat) : UInt8 := UInt8.ofNat (160 + i % 90)
def lentL (l : List UInt8) : List UInt8 := l ++ [mk_ l.length, mk_ (l.length + 1), mk_ (l.length + 2)]
theorem lentL_length (l : List UInt8) : (lentL l).length = l.length + 3 := by simp [lentL]
theorem mk_i (k : Nat) : IntKind.u8.wrap (160 + (k : Int) % 90) = ((mk_ k).toNat : Int) := by
  rw [IntKind.wrap_u8]
  simp [mk_]

theorem lentL_get (l : List UInt8) (k : Nat) (h1 : l.length ≤ k) (h2 : k < l.length + 3) : (lentL l)[k]? = some (mk_ k) := by
  unfold lentL
  rw [List.getElem?_append_right h1]
  rcases (show k = l.length ∨ k = l.length + 1 ∨ k = l.length + 2 from by omega) with rfl | rfl | rfl
  · simp
  · simp [show l.length + 1 - l.length = 1 from by omega]
  · simp [show l.length + 2 - l.length = 2 from by omega]
theorem lentL_step (l fl : List UInt8) (k : Nat) (h1 : l.length ≤ k) (h2 : k < l.length + 3) (hf : fl.length = l.length + 3) (ht : fl.take k = (lentL l).take k) :
    (fl.set k (mk_ k)).take (k + 1) = (lentL l).take (k + 1) := by
  rw [List.take_add_one, List.take_add_one, lentL_get l k h1 h2, List.take_set_of_le (Nat.le_refl k), ht, List.getElem?_set_self (by omega)]
theorem lent_e1 (l : List UInt8) : (l.map u8v).take (Nat.min l.length (l.length + 3)) ++ (List.replicate (l.length + 3) (Value.int .u8 0)).drop (Nat.min l.length (l.length + 3)) = (l ++ List.replicate 3 (0 : UInt8)).map u8v := by
  rw [show Nat.min l.length (l.length + 3) = l.length from Nat.min_eq_left (by omega), List.take_of_length_le (by simp), List.drop_replicate, show l.length + 3 - l.length = 3 from by omega, List.map_append]; rfl
theorem lentL_take (l : List UInt8) : (lentL l).take l.length = l := by simp [lentL]

set_option maxHeartbeats 1000000 in
/-- LentBytes: a copy with room behind it, in which marks stand. -/
theorem lent_bytes {A : Option Addr} {c : Nat} {l : List UInt8} {w : World} (h : Rd w A c l) (hl : l.length ≤ 140737488355328) :
    Calls Try.prog 20 #[.slice A l.length c] w fun e w' => ∃ g, e = .returned (.slice (some ⟨g, 0, none⟩) l.length (l.length + 3)) ∧ Own w' w.heap.size 5 (some ⟨g, 0, none⟩) (l.length + 3) (lentL l) ∧ Ext w w' := by
  obtain ⟨i0, hi, hz0, hz1, hz2⟩ := info_parts info_u8
  go_enter Try.func20, Try.ntmps20
  go_wp2_with (first | (at_make; refine wpList_make_g (ok := isU8) (n := l.length + 3) (m := l.length + 3) rfl (.tmp 7) (.tmp 7) 22 rfl w.heap.size 5 i0 (.int .u8 0) 1 Try.underlying22 hi hz0 hz1 hz2 rfl ⟨0, rfl⟩ .i64 .i64 rfl rfl (by omega) (by omega) (Nat.le_refl _) (by omega) (by unfold maxLen; omega) (Nat.le_refl _) ?_; intro w1 hown1 hext1 hsz1; have hr1 : RdG w1 1 A l.length c (l.map u8v) := RdG.ext h hext1) | ((with_reducible show wpList _ _ _ (⟨some 11, _, _, _, _, _⟩ :: _) _ _); refine wpList_copy_g rfl (.tmp 9) (.tmp 10) 22 rfl w.heap.size 5 i0 Try.underlying22 hi hz1 (fun _ h => h.one) rfl hown1 rfl hr1 (isU8_map l) ?_; intro w2 hown2 hgr2))
  have hb0 : Below w.heap.size w w2 := Below.grown hext1 hgr2 (by omega) (by simp)
  have hown3 : Own w2 w.heap.size 5 (some ⟨w.heap.size, 0, none⟩) (l.length + 3) (l ++ List.replicate 3 (0 : UInt8)) := by
    unfold Own; rw [← lent_e1, show (l ++ List.replicate 3 (0 : UInt8)).length = l.length + 3 from by simp]; exact hown2
  clear hown1 hown2 hgr2 hr1 hext1
  go_loopw [4] (fun i wr => ∃ k : Nat, l.length ≤ k ∧ k ≤ l.length + 3 ∧ i = .int .i64 k ∧ (∃ fl : List UInt8, fl.length = l.length + 3 ∧ Own wr w.heap.size 5 (some ⟨w.heap.size, 0, none⟩) (l.length + 3) fl ∧ fl.take k = (lentL l).take k) ∧ Below w.heap.size w wr) (fun i _ => l.length + 3 - (intOf i).toNat)
  case atStart => exact ⟨l.length, Nat.le_refl _, by omega, rfl, ⟨_, by simp, hown3, by rw [lentL_take]; simp⟩, hb0⟩
  case round =>
    clear hown3 hb0
    obtain ⟨k, hk0, hk, rfl, ⟨fl, hfl, hown, htk⟩, hb⟩ := hrel
    by_cases hlt : k < l.length + 3
    · have hcell : wr.cell? ⟨w.heap.size, k, none⟩ = some (.int .u8 (fl.getD k 0).toNat) := by
        obtain ⟨b', o, h1, _, h3⟩ := (Own.rd hown).at_ (k := k) (by omega)
        injection h1 with h1; injection h1 with h1 h2; subst h1; subst h2
        simpa using h3
      have hfz : wr.frozen? ⟨w.heap.size, k, none⟩ = false := OwnG.frozen hown rfl k
      have hmk := mk_i k
      have hstep := OwnG.set (k := k) hown hlt (v := u8v (mk_ k)) ⟨_, rfl⟩ rfl
      have hbs := Below.setCell hb (p := ⟨w.heap.size, k, none⟩) (Nat.le_refl _) (u8v (mk_ k))
      have hts := hid (lentL_step l fl k hk0 hlt hfl htk)
      have Hfl := hid hfl
      have Htk := hid htk
      clear hfl htk
      go_wp2
      go_roundw
      case rel => exact ⟨k + 1, by omega, by omega, by go_num, ⟨fl.set k (mk_ k), by simp [Hfl.out], by unfold Own; rw [List.length_set, List.map_set]; exact hstep, hts.out⟩, hbs⟩
      case measure => simp [intOf]; omega
    · have hk3 : k = l.length + 3 := by omega
      have hfin : fl = lentL l := by
        have := htk
        rw [List.take_of_length_le (by omega), List.take_of_length_le (by rw [lentL_length]; omega)] at this
        exact this
      subst hfin
      clear hk3 htk hfl
      go_wp2
      go_ret
      exact ⟨w.heap.size, rfl, hown, hb⟩

theorem lent_rd {w : World} {g base : Nat} {l : List UInt8} (h : Own w base 5 (some ⟨g, 0, none⟩) (l.length + 3) (lentL l)) : Rd w (some ⟨g, 0, none⟩) (l.length + 3) l := by
  have := OwnG.rd (OwnG.shrink h l.length (by rw [lentL_length]; omega))
  unfold Rd
  rw [← List.map_take, show l.length * 1 = l.length from by omega, lentL_take] at this
  exact this
theorem same_bytes_n {A B : Option Addr} {ca cb n m : Nat} {a b : List UInt8} {w : World} (ha : Rd w A ca a) (hb : Rd w B cb b) (hn : a.length = n) (hm : b.length = m) :
    Calls Try.prog 12 #[.slice A n ca, .slice B m cb] w fun e w' => e = .returned (.bool (a == b)) ∧ w = w' := by
  subst hn; subst hm; exact same_bytes ha hb

theorem same_yes {A B : Option Addr} {ca cb n : Nat} {a : List UInt8} {w : World} (ha : Rd w A ca a) (hb : Rd w B cb a) (hn : a.length = n) :
    Calls Try.prog 12 #[.slice A n ca, .slice B n cb] w fun e w' => e = .returned (.bool true) ∧ w = w' := by
  subst hn
  refine (same_bytes ha hb).mono ?_
  rintro e w' ⟨rfl, hw⟩
  exact ⟨ret_bool (by simp), hw⟩
theorem ne_blk {A B : Option Addr} {base : Nat} {w w' : World} {e : TypeId} {ca cb : Nat} {a b : List UInt8} {base' : Nat} (ha : Own w base e A ca a) (hb : Own w' base' e B cb b) (hle : w.heap.size ≤ base') : ∀ g, blk A = some g → some g ≠ blk B := by
  intro g hg hB
  have h1 := ha.lt g hg
  have h2 := hb.lt g hB.symm
  omega
theorem ne_blk' {A B : Option Addr} {base : Nat} {w w' : World} {e : TypeId} {ca cb : Nat} {a b : List UInt8} {base' : Nat} (ha : Own w base e A ca a) (hb : Own w' base' e B cb b) (hle : w.heap.size ≤ base') : ∀ g, blk B = some g → some g ≠ blk A := by
  intro g hg hB
  have h1 := ha.lt g hB.symm
  have h2 := hb.lt g hg
  omega

/-- What was there when the other one was told is no part of it. -/
theorem ne_over {A B : Option Addr} {base base' : Nat} {w w' : World} {e : TypeId} {ca cb : Nat} {a b : List UInt8} (ha : Own w base e A ca a) (hb : Own w' base' e B cb b) (hle : w.heap.size ≤ base' := by exact Nat.le_refl _) : ∀ g, blk A = some g → some g ≠ blk B := ne_blk ha hb hle
theorem rd_over {A B : Option Addr} {base' : Nat} {w w' : World} {e : TypeId} {ca cb : Nat} {a b : List UInt8} (ha : Rd w A ca a) (hb : Own w' base' e B cb b) (hle : w.heap.size ≤ base' := by exact Nat.le_refl _) : 0 < a.length → blk A ≠ blk B := by
  intro h0 hB
  obtain ⟨g, hg, h1⟩ := ha.lt h0
  have h2 := hb.lt g (by rw [← hB, hg])
  omega

set_option maxHeartbeats 1000000 in
/-- KeptBytes, of a list that was lent and kept. -/
theorem kept_bytes {g : Nat} {B : Option Addr} {cb base : Nat} {l : List UInt8} {w : World} (h : Own w base 5 (some ⟨g, 0, none⟩) (l.length + 3) (lentL l)) (hB : Rd w B cb l) (hl : l.length ≤ 140737488355328) :
    Calls Try.prog 24 #[.slice (some ⟨g, 0, none⟩) l.length (l.length + 3), .slice B l.length cb] w fun e w' => e = .returned (.bool true) ∧ Ext w w' := by
  have s1 : IntKind.i64.wrap ((l.length : Int) + 3) = (l.length : Int) + 3 := IntWalk.i64_in _ (by omega)
  have s2 : (0 : Int) ≤ (l.length : Int) + 3 := by omega
  have s3 : ((l.length : Int) + 3).toNat = l.length + 3 := by omega
  have s4 : ¬ (l.length + 3 = 0) := by omega
  have s5 : ((l.length : Int) == (l.length : Int)) = true := by simp
  have s6 : (l.length : Int) + 3 ≤ ((l.length + 3 : Nat) : Int) := by omega
  go_enter Try.func24, Try.ntmps24
  go_wp2_with fail
  refine wp_region_any (by kernel_rfl) ?_
  change wpAny _ _ _ _ _ _ _ (World.drew _)
  refine wpAny_take (i := 0) (v := (.slice (some ⟨g, 0, none⟩) l.length (l.length + 3))) rfl (by kernel_rfl) (by kernel_rfl) (by kernel_rfl) (fun _ _ _ h => h) (Or.inl ⟨by kernel_rfl, fun _ => by go_simp⟩) ?_
  refine wpAny_take (i := 1) (v := (.int .i64 l.length)) rfl (by kernel_rfl) (by kernel_rfl) (by kernel_rfl) (fun _ _ _ h => h) (Or.inl ⟨by kernel_rfl, fun _ => by go_simp⟩) ?_
  refine wpAny_take (i := 2) (v := (.slice B l.length cb)) rfl (by kernel_rfl) (by kernel_rfl) (by kernel_rfl) (fun _ _ _ h => h) (Or.inl ⟨by kernel_rfl, fun _ => by go_simp⟩) ?_
  refine wpAny_take (i := 3) (v := (.int .i64 l.length)) rfl (by kernel_rfl) (by kernel_rfl) (by kernel_rfl) (fun _ _ _ h => h) (Or.inl ⟨by kernel_rfl, fun _ => by go_simp⟩) ?_
  refine wpAny_take (i := 4) (v := (.bool true)) rfl (by kernel_rfl) (by kernel_rfl) (by kernel_rfl) (fun _ _ _ h => h) (Or.inl ⟨by kernel_rfl, fun _ => by go_simp⟩) ?_
  refine wpAny_take (i := 5) (v := (.bool true)) rfl (by kernel_rfl) (by kernel_rfl) (by kernel_rfl) (fun _ _ _ h => h) (Or.inl ⟨by kernel_rfl, fun _ => by go_simp⟩) ?_
  refine wpAny_take (i := 6) (v := (.slice (some ⟨g, 0, none⟩) l.length (l.length + 3))) rfl (by kernel_rfl) (by kernel_rfl) (by kernel_rfl) (fun _ _ _ h => h) (Or.inl ⟨by kernel_rfl, fun _ => by go_simp⟩) ?_
  refine wpAny_take (i := 7) (v := (.slice (some ⟨g, 0, none⟩) l.length (l.length + 3))) rfl (by kernel_rfl) (by kernel_rfl) (by kernel_rfl) (fun _ _ _ h => h) (Or.inl ⟨by kernel_rfl, fun _ => by go_simp⟩) ?_
  refine wpAny_take (i := 8) (v := (.int .i64 ((l.length + 3 : Nat) : Int))) rfl (by kernel_rfl) (by kernel_rfl) (by kernel_rfl) (fun _ _ _ h => h) (Or.inl ⟨by kernel_rfl, fun _ => by go_simp⟩) ?_
  refine wpAny_take (i := 9) (v := (.slice (some ⟨g, 0, none⟩) (l.length + 3) (l.length + 3))) rfl (by kernel_rfl) (by kernel_rfl) (by kernel_rfl) (fun _ _ _ h => h) (Or.inl ⟨by kernel_rfl, fun _ => by go_simp⟩) ?_
  refine wpAny_take (i := 10) (v := (.slice B l.length cb)) rfl (by kernel_rfl) (by kernel_rfl) (by kernel_rfl) (fun _ _ _ h => h) (Or.inl ⟨by kernel_rfl, fun _ => by go_simp⟩) ?_
  refine wpAny_take (i := 12) (v := (.slice B l.length cb)) rfl (by kernel_rfl) (by kernel_rfl) (by kernel_rfl) (fun _ _ _ h => h) (Or.inl ⟨by kernel_rfl, fun _ => by go_simp⟩) ?_
  refine wpAny_take (i := 13) (v := (.int .i64 l.length)) rfl (by kernel_rfl) (by kernel_rfl) (by kernel_rfl) (fun _ _ _ h => h) (Or.inl ⟨by kernel_rfl, fun _ => by go_simp⟩) ?_
  refine wpAny_take (i := 14) (v := (.int .i64 ((l.length + 3 : Nat) : Int))) rfl (by kernel_rfl) (by kernel_rfl) (by kernel_rfl) (fun _ _ _ h => h) (Or.inl ⟨by kernel_rfl, fun _ => by go_simp⟩) ?_
  refine wpAny_ready (rs := [11]) (by kernel_rfl) (by simp) ?_
  refine AllReady.cons rfl (fun K hK => ?_) AllReady.nil
  go_simp
  refine (lent_bytes (l := l) (c := cb) (w := w.drew) hB hl).mono ?_
  rintro e w1 ⟨g1, rfl, hown1, hext1⟩
  refine hK _ _ ?_
  clear hK K
  refine wpAny_take (i := 15) (v := (.slice (some ⟨g1, 0, none⟩) (l.length + 3) (l.length + 3))) rfl (by kernel_rfl) (by kernel_rfl) (by kernel_rfl) (fun _ _ _ h => h) (Or.inl ⟨by kernel_rfl, fun _ => by go_simp⟩) ?_
  refine wpAny_ready (rs := [16]) (by kernel_rfl) (by simp) ?_
  refine AllReady.cons rfl (fun K hK => ?_) AllReady.nil
  go_simp
  have hE : Ext w w1 := Below.trans ((Below.refl _ _).drew) hext1
  refine (same_bytes_n (a := lentL l) (b := lentL l) (Own.ext h hE).rd hown1.rd (lentL_length l) (lentL_length l)).mono ?_
  rintro e w2 ⟨rfl, rfl⟩
  refine hK _ _ ?_
  clear hK K
  refine wpAny_take (i := 17) (v := (.bool (lentL l == lentL l))) rfl (by kernel_rfl) (by kernel_rfl) (by kernel_rfl) (fun _ _ _ h => h) (Or.inl ⟨by kernel_rfl, fun _ => by go_simp⟩) ?_
  refine wpAny_ready (rs := [18]) (by kernel_rfl) (by simp) ?_
  refine AllReady.cons rfl (fun K hK => ?_) AllReady.nil
  go_simp
  refine hK _ _ ?_
  clear hK K
  refine wpAny_done (by kernel_rfl) ?_ _
  go_wp2
  go_ret
  exact ⟨ret_bool (by simp), hE⟩

end Go.Proofs.Ytcbfpillplhgnaa

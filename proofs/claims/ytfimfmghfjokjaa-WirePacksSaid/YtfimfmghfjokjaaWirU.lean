/- Layer 5: names that are handed in (slices of {string, int, bool}), and whether they are too long; a slice of ints, own. -/
import Derived.Test.YtfimfmghfjokjaaWirQ
import Derived.Test.YtfimfmghfjokjaaWirK
import Derived.Test.YtfimfmghfjokjaaKPick
import Derived.Test.YtfimfmghfjokjaaLabC
import Derived.Deep.RegionHeld3
import Derived.BigQuiet
namespace Go.Proofs.Ytfimfmghfjokjaa
open Go.BK Go.RowKit Go.BK.NM
set_option linter.unusedVariables false

def SActR (w : World) (A : Option Addr) (n c : Nat) (Nm : Nat → ByteArray) (T : Nat → Int) (R : Nat → Bool) : Prop :=
  n ≤ c ∧ c ≤ maxLen ∧ ∀ i, i < n → ∃ b o, A = some ⟨b, o, none⟩ ∧ b < w.heap.size ∧ w.cell? ⟨b, o + i * 3, none⟩ = some (.string (Nm i)) ∧ w.cell? ⟨b, o + i * 3 + 1, none⟩ = some (.int .i64 (T i)) ∧ w.cell? ⟨b, o + i * 3 + 2, none⟩ = some (.bool (R i)) ∧
      (Nm i).size ≤ maxLen ∧ -9223372036854775808 ≤ T i ∧ T i ≤ 9223372036854775807
theorem SActR.below {w w' : World} {A : Option Addr} {n c : Nat} {Nm : Nat → ByteArray} {T : Nat → Int} {R : Nat → Bool} (h : SActR w A n c Nm T R) (e : Below w.heap.size w w') : SActR w' A n c Nm T R := by
  refine ⟨h.1, h.2.1, fun i hi => ?_⟩
  obtain ⟨b, o, h1, h2, h3, h4, h5, h6⟩ := h.2.2 i hi
  exact ⟨b, o, h1, Nat.lt_of_lt_of_le h2 e.size, by rw [e.cell h2]; exact h3, by rw [e.cell h2]; exact h4, by rw [e.cell h2]; exact h5, h6⟩

/-- Too long: a name of more than 400 bytes among the first 61, or more than 60 names. -/
def LongS (n : Nat) (Nm : Nat → ByteArray) : Prop := (∃ i, i < n ∧ i < 61 ∧ 400 < (Nm i).size) ∨ 60 < n

set_option maxHeartbeats 1000000 in
theorem long_any {w : World} {A : Option Addr} {n c : Nat} {Nm : Nat → ByteArray} {T : Nat → Int} {R : Nat → Bool} (h : SActR w A n c Nm T R) :
    Calls Try.prog 18 #[.slice A n c] w fun e w' => ∃ b : Bool, e = .returned (.bool b) ∧ (b = false → n ≤ 60 ∧ ∀ i, i < n → (Nm i).size ≤ 400) ∧ w = w' := by
  have HA := hid h.2.2
  have hn9 : n ≤ 9223372036854775807 := by have := h.1; have := h.2.1; unfold maxLen at *; omega
  have hc9 : c ≤ 9223372036854775807 := by have := h.2.1; unfold maxLen at *; omega
  clear h
  go_enter Try.func18, Try.ntmps18
  go_wp2_with fail
  go_loopw [3] (fun i wr => ∃ k : Nat, k ≤ n ∧ k ≤ 61 ∧ i = .int .i64 k ∧ Hid (∀ j, j < k → (Nm j).size ≤ 400) ∧ wr = w) (fun i _ => 61 - (intOf i).toNat)
  case atStart => exact ⟨0, Nat.zero_le _, by omega, rfl, hid (fun j hj => absurd hj (Nat.not_lt_zero _)), rfl⟩
  case round =>
    obtain ⟨k, hk, hk61, rfl, HS, rfl⟩ := hrel
    by_cases hlt : k < n
    · have hi2 : (k : Int) < (n : Int) := by omega
      have hd1 : decide ((k : Int) < (n : Int)) = true := by rw [decide_eq_true_iff]; omega
      have hd1' : decide (k < n) = true := by rw [decide_eq_true_iff]; omega
      by_cases h61 : k < 61
      · have hd2 : decide ((k : Int) < 61) = true := by rw [decide_eq_true_iff]; omega
        obtain ⟨bl, o, rfl, hbl, s1, s2, s3, b1, b2⟩ := HA.out k hlt
        have hm : (Nm k).size ≤ 9223372036854775807 := by unfold maxLen at b1; omega
        obtain ⟨nm, hnm⟩ : ∃ nm, nm = Nm k := ⟨_, rfl⟩
        rw [← hnm] at s1 hm
        have HNM := hid hnm
        clear s2 s3 b1 b2 hnm
        by_cases h400 : (400 : Int) < (nm.size : Int)
        · have hd : decide ((400 : Int) < (nm.size : Int)) = true := by rw [decide_eq_true_iff]; exact h400
          go_wp2_with fail
          go_ret
          exact ⟨true, rfl, (fun h => nomatch h), rfl⟩
        · have hd : decide ((400 : Int) < (nm.size : Int)) = false := by rw [decide_eq_false_iff_not]; exact h400
          go_wp2_with fail
          go_roundw
          case rel => exact ⟨k + 1, by omega, by omega, by go_num, hid (fun j hj => by
            rcases Nat.lt_or_ge j k with h1 | h1
            · exact HS.out j h1
            · obtain rfl : j = k := by omega
              rw [← HNM.out]; omega), trivial⟩
          case measure => simp [intOf]; omega
      · have hd2 : decide ((k : Int) < 61) = false := by rw [decide_eq_false_iff_not]; omega
        have h60 : decide ((60 : Int) < (n : Int)) = true := by rw [decide_eq_true_iff]; omega
        go_wp2_with fail
        go_ret
        exact ⟨true, rfl, (fun h => nomatch h), rfl⟩
    · obtain rfl : k = n := by omega
      have hd1 : decide ((k : Int) < (k : Int)) = false := by rw [decide_eq_false_iff_not]; omega
      have hd1' : decide (k < k) = false := by rw [decide_eq_false_iff_not]; omega
      clear hlt hk
      by_cases h60 : k ≤ 60
      · have hd : decide ((60 : Int) < (k : Int)) = false := by rw [decide_eq_false_iff_not]; omega
        go_wp2_with fail
        go_ret
        exact ⟨false, rfl, (fun _ => ⟨h60, HS.out⟩), rfl⟩
      · have hd : decide ((60 : Int) < (k : Int)) = true := by rw [decide_eq_true_iff]; omega
        go_wp2_with fail
        go_ret
        exact ⟨true, rfl, (fun h => nomatch h), rfl⟩

theorem info_int : (Try.prog.info? 3).map (fun i => (i.zero, i.size, i.bytes)) = some (some (.int .i64 0), 1, 8) := by kernel_rfl
def okI (v : Value) : Prop := ∃ k : Int, v = .int .i64 k
theorem okI.one {v : Value} (h : okI v) : v.oneCell' = true := by obtain ⟨b, rfl⟩ := h; rfl
def atV (p : Nat × List Bs) : Value := .int .i64 (p.1 : Int)
def nmV (p : Nat × List Bs) : Value := .string (str (wire p.2))
/-- No two of three slices share a block. -/
def Apart3 (A B C : Option Addr) : Prop := (∀ b, blk A = some b → blk B ≠ some b ∧ blk C ≠ some b) ∧ ∀ b, blk B = some b → blk C ≠ some b

theorem apart3_nil : Apart3 none none none := ⟨(fun b h => nomatch h), (fun b h => nomatch h)⟩
theorem Apart3.fst {A A' B C : Option Addr} {h : Nat} (H : Apart3 A B C) (hN : ∀ b, blk A' = some b → blk A = some b ∨ h ≤ b) (hB : ∀ b, blk B = some b → b < h) (hC : ∀ b, blk C = some b → b < h) : Apart3 A' B C := by
  refine ⟨fun b hb => ?_, H.2⟩
  rcases hN b hb with h1 | h1
  · exact H.1 b h1
  · exact ⟨fun e => by have := hB b e; omega, fun e => by have := hC b e; omega⟩
theorem Apart3.snd {A B B' C : Option Addr} {h : Nat} (H : Apart3 A B C) (hN : ∀ b, blk B' = some b → blk B = some b ∨ h ≤ b) (hA : ∀ b, blk A = some b → b < h) (hC : ∀ b, blk C = some b → b < h) : Apart3 A B' C := by
  refine ⟨fun b hb => ⟨fun e => ?_, (H.1 b hb).2⟩, fun b hb e => ?_⟩
  · rcases hN b e with h1 | h1
    · exact (H.1 b hb).1 h1
    · have := hA b hb; omega
  · rcases hN b hb with h1 | h1
    · exact H.2 b h1 e
    · have := hC b e; omega
theorem Apart3.thd {A B C C' : Option Addr} {h : Nat} (H : Apart3 A B C) (hN : ∀ b, blk C' = some b → blk C = some b ∨ h ≤ b) (hA : ∀ b, blk A = some b → b < h) (hB : ∀ b, blk B = some b → b < h) : Apart3 A B C' := by
  refine ⟨fun b hb => ⟨(H.1 b hb).1, fun e => ?_⟩, fun b hb e => ?_⟩
  · rcases hN b e with h1 | h1
    · exact (H.1 b hb).2 h1
    · have := hA b hb; omega
  · rcases hN b e with h1 | h1
    · exact H.2 b hb h1
    · have := hB b hb; omega
theorem rd_take {w : World} {D : Option Addr} {cd pv : Nat} {m : List UInt8} (h : Rd w D cd m) (hp : pv ≤ m.length) : RdG w 1 D pv cd ((m.take pv).map u8v) := by
  have := h.cut (i := 0) (j := pv) (Nat.zero_le _) hp (A' := D) (fun _ => (mapAdd_zero D).symm)
  unfold Rd at this
  rw [List.drop_zero, List.length_take, Nat.min_eq_left hp, Nat.sub_zero] at this
  exact this
theorem pack_grown {w w' : World} {g mb e : Nat} {T : Tails} {row : Option Nat} (h : PackW w g mb T e) (hg : w.grownBy w' row) (h1 : row ≠ some g) (h2 : row ≠ some mb) : PackW w' g mb T e :=
  h.shy (U := fun x => row = some x) ((Shy.refl w).grown hg (fun _ e _ => e)) h1 h2
theorem keep_g {ok : Value → Prop} {W W' : World} {g mb b c n : Nat} {e : TypeId} {A : Option Addr} {xs : List Value} (h : OwnG ok W b e 1 A n c xs) (hs : Shy (fun k => k = g ∨ k = mb) W W') (h1 : g < b) (h2 : mb < b) : OwnG ok W' b e 1 A n c xs :=
  hs.ownG h (fun k hk => by have := (h.lt k hk).1; omega)
theorem new_blk {A A' : Option Addr} {h : Nat} (y : A' = A ∨ A' = some ⟨h, 0, none⟩) : ∀ b, blk A' = some b → blk A = some b ∨ h ≤ b := fun b hb => by
  rcases y with rfl | rfl
  · exact .inl hb
  · simp at hb; exact .inr (by omega)

/-- What the law's first loop has laid: the bytes, the places and the names. -/
def BackRel (w : World) (g mb b0 n k : Nat) (out ats nms : Value) (wr : World) : Prop :=
  ∃ (T : Tails) (e : Nat) (B : Bs) (P : List (Nat × List Bs)) (A A1 A2 : Option Addr) (c c1 c2 : Nat),
    out = .slice A B.length c ∧ ats = .slice A1 P.length c1 ∧ nms = .slice A2 P.length c2 ∧ B.length ≤ 1256 * k ∧ P.length ≤ k ∧ T.length ≤ 255 * k ∧ e ≤ B.length ∧
    Hid (TailsIn B T) ∧ Hid (Laid B P) ∧ Hid (PackW wr g mb T e) ∧ Hid (BK.Own wr b0 5 A c B) ∧ Hid (OwnG okI wr b0 3 1 A1 P.length c1 (P.map atV)) ∧ Hid (OwnG okS wr b0 9 1 A2 P.length c2 (P.map nmV)) ∧
    Hid (Apart3 A A1 A2) ∧ b0 ≤ wr.heap.size ∧ Hid (Below w.heap.size w wr)
end Go.Proofs.Ytfimfmghfjokjaa

/- Layer 29: the program's reader: the next number, whether there are bytes left. -/
import Derived.Test.YtholjbnggnfapaaScrS
import Derived.Test.YtholjbnggnfapaaKitV
import Derived.Test.YtholjbnggnfapaaKStep
import Derived.Test.YtholjbnggnfapaaKBase
import Derived.Laws.BitsAllLaws
import Derived.BigQuiet
import Derived.IntWalk
namespace Go.Proofs.Ytholjbnggnfapaa
open Go.BK Go.BK.SC Go.RowKit
set_option linter.unusedVariables false
/-- A reader: where it stands (block ra), its bytes (in the variable rb). -/
structure Rdr (w : World) (ra rb : Nat) (A : Option Addr) (c : Nat) (b : List UInt8) (i : Nat) : Prop where
  at_ : Blk w ra 3 #[.int .i64 i]
  bx : Blk w rb 22 #[.slice A b.length c]
  rd : Rd w A c b
  le : i ≤ b.length
  ne : 0 < b.length → blk A ≠ some ra
section
variable {w w' : World} {ra rb c i : Nat} {A : Option Addr} {b : List UInt8}
theorem wraps62 (n : Int) (h₀ : 0 ≤ n) (h₁ : n < 2 ^ 62) : IntKind.i64.wrap n = n := IntWalk.i64_in _ (by omega)
theorem or_256 (x y : Nat) (hx : x < 256) (hy : y < 2 ^ 32) : bits .or .i64 ((y : Int) * 256) x = ((y * 256 + x : Nat) : Int) := by
  have e : (y : Int) * 256 = ((y * 256 : Nat) : Int) := by simp
  rw [e, bits_join .i64 62 (by decide) wraps62 8 ((y * 256 : Nat) : Int) x (by omega) (by omega) (by omega) (by omega) (by omega) (by omega)]
  simp
theorem left_in (h : Rdr w ra rb A c b i) : Calls Try.prog 36 #[.pointer (some ⟨ra, 0, none⟩), .pointer (some ⟨rb, 0, none⟩)] w fun e w' => e = .returned (.bool (decide (i < b.length))) ∧ w = w' := by
  have c0 := h.at_.cell 0
  have c1 := h.bx.cell 0
  have hn9 := h.rd.n_le
  simp at c0 c1
  obtain ⟨n, hn⟩ : ∃ n, b.length = n := ⟨_, rfl⟩
  rw [hn] at c1 hn9 ⊢
  clear h hn
  have e : decide ((i : Int) < (n : Int)) = decide (i < n) := by simp
  go_enter Try.func36, Try.ntmps36
  go_wp2
  go_ret
  exact ⟨by simp, rfl⟩
theorem Rdr.step (h : Rdr w ra rb A c b i) (hs : i < b.length) : Rdr (w.setCell ⟨ra, 0, none⟩ (.int .i64 ((i + 1 : Nat) : Int))) ra rb A c b (i + 1) where
  at_ := by
    have := h.at_.set_ 0 (.int .i64 ((i + 1 : Nat) : Int))
    simpa using this
  bx := h.bx.shy (set_shy ra 0 _ w) (blk_ne h.bx h.at_ (by decide))
  rd := (set_shy ra 0 _ w).rd h.rd (fun k hk e => h.ne (by omega) (e ▸ hk))
  le := hs
  ne := h.ne
theorem Rdr.shy {U : Nat → Prop} (h : Rdr w ra rb A c b i) (hs : Shy U w w') (h1 : ¬ U ra) (h2 : ¬ U rb) (h3 : 0 < b.length → ∀ k, blk A = some k → ¬ U k) : Rdr w' ra rb A c b i := by
  refine ⟨h.at_.shy hs h1, h.bx.shy hs h2, ?_, h.le, h.ne⟩
  rcases Nat.eq_zero_or_pos b.length with h0 | h0
  · have e : b = [] := List.eq_nil_of_length_eq_zero h0
    have hr := h.rd
    subst e
    exact RdG.zero w' 1 A c (RdG.cap hr).2
  · exact hs.rd h.rd (h3 h0)
theorem Rdr.ext (h : Rdr w ra rb A c b i) (hs : Ext w w') : Rdr w' ra rb A c b i := h.shy (U := fun _ => False) (Shy.of_ext hs) id id fun _ _ _ => id
def NxRel (w : World) (ra rb : Nat) (A : Option Addr) (c : Nat) (b : List UInt8) (i size : Nat) (n j : Value) (wr : World) : Prop :=
  ∃ k, k ≤ size ∧ j = .int .i64 (k : Nat) ∧ n = .int .i64 (num k (b.drop i) : Nat) ∧ Rdr wr ra rb A c b (min (i + k) b.length) ∧ Shy (fun k => k = ra) w wr
set_option maxHeartbeats 1000000 in
set_option maxRecDepth 100000 in
theorem next_in (h : Rdr w ra rb A c b i) (size : Nat) (hsz : size ≤ 4) : Calls Try.prog 35 #[.int .i64 size, .pointer (some ⟨ra, 0, none⟩), .pointer (some ⟨rb, 0, none⟩)] w fun e w' =>
    e = .returned (.int .i64 (num size (b.drop i) : Nat)) ∧ Rdr w' ra rb A c b (min (i + size) b.length) ∧ Shy (fun k => k = ra) w w' := by
  have H := hid h
  have hn9 := h.rd.n_le
  clear h
  go_enter Try.func35, Try.ntmps35
  go_wp2_with fail
  go_loopw [5, 7] (fun n j wr => NxRel w ra rb A c b i size n j wr) (fun _ j _ => size - (intOf j).toNat)
  case atStart => exact ⟨0, Nat.zero_le _, rfl, rfl, by have := H.out.le; rw [Nat.add_zero, Nat.min_eq_left this]; exact H.out, Shy.refl _⟩
  case round =>
    obtain ⟨k, hk, rfl, rfl, hr, hs⟩ := hrel
    by_cases hlt : k < size
    · have i1 : (k : Int) < (size : Int) := by omega
      have hlt2 := num_lt k (b.drop i)
      have hlt3 : num k (b.drop i) < 2 ^ 32 := Nat.lt_of_lt_of_le hlt2 (by have h1 : 256 ^ k ≤ 256 ^ 3 := Nat.pow_le_pow_right (by decide) (by omega); omega)
      have hsu := num_succ k (b.drop i)
      rw [List.drop_drop] at hsu
      obtain ⟨x, hx⟩ : ∃ x, num k (b.drop i) = x := ⟨_, rfl⟩
      rw [hx] at hlt3 hsu ⊢
      clear hlt2 hx
      by_cases hin : i + k < b.length
      · rw [Nat.min_eq_left (by omega)] at hr
        have c0 : wr.cell? ⟨ra, 0, none⟩ = some (.int .i64 ((i + k : Nat) : Int)) := hr.at_.cell 0
        have c1 : wr.cell? ⟨rb, 0, none⟩ = some (.slice A b.length c) := hr.bx.cell 0
        obtain ⟨gb, o, hA, hgb, hcell⟩ := hr.rd.at_ hin
        have cf := hr.at_.frozen
        have hne := hr.ne (by omega)
        subst hA
        have hd : ((b.drop (i + k)).headD 0) = b.getD (i + k) 0 := by
          rw [List.headD_eq_head?_getD, List.head?_drop]
          rfl
        rw [hd] at hsu
        obtain ⟨y, hy⟩ : ∃ y, b.getD (i + k) 0 = y := ⟨_, rfl⟩
        rw [hy] at hsu hcell
        have hyl : y.toNat < 256 := UInt8.toNat_lt _
        have hor := or_256 y.toNat x hyl hlt3
        have HSU := hid hsu
        have HR := hid (hr.step (by omega))
        have HS := hid hs
        have i2 : ((i + k : Nat) : Int) < (b.length : Int) := by omega
        obtain ⟨n, hn⟩ : ∃ n, b.length = n := ⟨_, rfl⟩
        obtain ⟨q, hq⟩ : ∃ q, i + k = q := ⟨_, rfl⟩
        rw [hn] at i2 c1 hn9
        rw [hq] at i2 c0 hcell
        unfold u8v at hcell
        have HQ := hid hq
        clear hr hs hsu hd hy hn hne hq hin
        go_wp2_with fail
        go_roundw
        case rel =>
          refine ⟨k + 1, by omega, by go_num, by rw [HSU.out]; simp, ?_, HS.out.set (fun _ => rfl) 0 _⟩
          have e : min (i + (k + 1)) b.length = i + k + 1 := by have := HR.out.le; omega
          have e2 : (q : Int) + 1 = ((i + k + 1 : Nat) : Int) := by rw [HQ.out]; simp
          rw [e, e2]
          exact HR.out
        case measure => simp [intOf]; omega
      · rw [Nat.min_eq_right (by omega)] at hr
        have c0 : wr.cell? ⟨ra, 0, none⟩ = some (.int .i64 ((b.length : Nat) : Int)) := hr.at_.cell 0
        have c1 : wr.cell? ⟨rb, 0, none⟩ = some (.slice A b.length c) := hr.bx.cell 0
        have hd : ((b.drop (i + k)).headD 0) = 0 := by rw [List.drop_of_length_le (by omega)]; rfl
        rw [hd] at hsu
        have HSU := hid hsu
        have HR := hid hr
        have HS := hid hs
        have HIN := hid hin
        obtain ⟨n, hn⟩ : ∃ n, b.length = n := ⟨_, rfl⟩
        rw [hn] at c0 c1 hn9
        have HN := hid hn
        have i2 : ¬ (n : Int) < (n : Int) := by omega
        clear hr hs hsu hd hn hin
        go_wp2_with fail
        go_roundw
        case rel =>
          refine ⟨k + 1, by omega, by go_num, by rw [HSU.out]; simp, ?_, HS.out⟩
          have e : min (i + (k + 1)) b.length = b.length := by have := HIN.out; omega
          rw [e]
          exact HR.out
        case measure => simp [intOf]; omega
    · obtain rfl : size = k := by omega
      have i1 : ¬ (size : Int) < (size : Int) := by omega
      have HR := hid hr
      have HS := hid hs
      clear hr hs
      go_wp2_with fail
      go_ret
      exact ⟨rfl, HR.out, HS.out⟩
end
end Go.Proofs.Ytholjbnggnfapaa

/- Layer 29: the document's reader: what it has left; bytes. -/
import Derived.Test.YtholjbnggnfapaaRscA
import Derived.Test.YtholjbnggnfapaaScrD
namespace Go.Proofs.Ytholjbnggnfapaa
open Go.BK Go.BK.SC Go.RowKit
set_option linter.unusedVariables false
set_option linter.unusedSimpArgs false
/-- A reader of the document's that has l left, and stands at most at k. -/
def RLr (w : World) (g : Nat) (A : Option Addr) (c : Nat) (b l : List UInt8) (k : Nat) : Prop := ∃ i, i ≤ k ∧ RfR w g A c b i ∧ l = b.drop i
section
variable {w w' : World} {g c k : Nat} {A : Option Addr} {b l : List UInt8}
theorem RLr.shy {U : Nat → Prop} (h : RLr w g A c b l k) (hs : Shy U w w') (h1 : ¬ U g) (h3 : 0 < b.length → ∀ k, blk A = some k → ¬ U k) : RLr w' g A c b l k := by
  obtain ⟨i, hi, h, e⟩ := h
  exact ⟨i, hi, h.shy hs h1 h3, e⟩
theorem RLr.ext (h : RLr w g A c b l k) (x : Ext w w') : RLr w' g A c b l k := h.shy (U := fun _ => False) (Shy.of_ext x) id fun _ _ _ => id
theorem RLr.lt (h : RLr w g A c b l k) : g < w.heap.size := by
  obtain ⟨i, hi, h, e⟩ := h
  exact h.at_.lt
theorem RLr.rd (h : RLr w g A c b l k) : Rd w A c b := by
  obtain ⟨i, hi, h, e⟩ := h
  exact h.rd
theorem RLr.mono {k' : Nat} (h : RLr w g A c b l k) (hk : k ≤ k') : RLr w g A c b l k' := by
  obtain ⟨i, hi, h, e⟩ := h
  exact ⟨i, by omega, h, e⟩
theorem rf_num (h : RLr w g A c b l k) (size : Nat) (hsz : size ≤ 4) (hk : k ≤ 2 ^ 61) : Calls Try.prog 39 #[.pointer (some ⟨g, 0, none⟩), .int .i64 size] w fun e w' =>
    e = .returned (.int .i64 (num size l : Nat)) ∧ RLr w' g A c b (l.drop size) (k + size) ∧ Shy (fun k => k = g) w w' := by
  obtain ⟨i, hi, h, rfl⟩ := h
  refine (rf_number h size hsz (by omega)).mono ?_
  rintro e w' ⟨rfl, h, s⟩
  exact ⟨rfl, ⟨_, by omega, h, by rw [List.drop_drop]⟩, s⟩
def RbRel (w : World) (g : Nat) (A : Option Addr) (c : Nat) (b : List UInt8) (base cnt : Nat) (l3 : List UInt8) (k : Nat) (ov iv : Value) (wr : World) : Prop :=
  ∃ i2 B d, i2 ≤ cnt ∧ iv = .int .i64 (i2 : Nat) ∧ ov = .slice B i2 d ∧ OwnG isU8 wr base 5 1 B i2 d ((takeZ i2 l3).map u8v) ∧ RLr wr g A c b (l3.drop i2) (k + i2) ∧ Shy (fun k => k = g) w wr
set_option maxHeartbeats 2000000 in
set_option maxRecDepth 100000 in
theorem rf_bytes (h : RLr w g A c b l k) (hk : k ≤ 2 ^ 60) : Calls Try.prog 40 #[.pointer (some ⟨g, 0, none⟩)] w fun e w' =>
    ∃ B d, e = .returned (.slice B (num 2 l % 4097) d) ∧ Own w' w.heap.size 5 B d (takeZ (num 2 l % 4097) (l.drop 2)) ∧ RLr w' g A c b ((l.drop 2).drop (num 2 l % 4097)) (k + 5000) ∧ Shy (fun k => k = g) w w' := by
  have C := rf_num h 2 (by omega) (by omega)
  have hnl := num_lt 2 l
  obtain ⟨x2, hx2⟩ : ∃ x2, num 2 l = x2 := ⟨_, rfl⟩
  rw [hx2] at C hnl ⊢
  have C := hid C
  have hglt := h.lt
  have hAg : ∀ k, blk A = some k → ¬ (w.heap.size ≤ k) ∨ b.length = 0 := fun k hk => by
    rcases Nat.eq_zero_or_pos b.length with h0 | h0
    · exact .inr h0
    · obtain ⟨b', h1, h2⟩ := h.rd.lt h0
      rw [hk] at h1
      injection h1 with h1
      exact .inl (by omega)
  have HAG := hid hAg
  obtain ⟨i0, hi0, hz0, hz1, hz2⟩ := info_parts info_u8
  obtain ⟨cnt, hcnt, hcx⟩ : ∃ cnt : Nat, (x2 : Int).tmod 4097 = (cnt : Int) ∧ x2 % 4097 = cnt := ⟨x2 % 4097, by simp [Int.tmod_eq_emod_of_nonneg], rfl⟩
  have hc4 : cnt ≤ 4096 := by omega
  rw [hcx]
  obtain ⟨l3, hl3⟩ : ∃ l3, l.drop 2 = l3 := ⟨_, rfl⟩
  rw [hl3] at C ⊢
  clear h hx2 hcx hl3 hAg
  go_enter Try.func40, Try.ntmps40
  go_wp2_with fail
  refine C.out.mono ?_
  rintro e w1 ⟨rfl, r1, s1⟩
  have R1 := hid r1
  have S1 := hid s1
  have hz1s := s1.size
  clear r1 s1
  go_wp2_with fail
  go_loopw [4, 5] (fun ov iv wr => RbRel w g A c b w.heap.size cnt l3 (k + 2) ov iv wr) (fun _ iv _ => cnt - (intOf iv).toNat)
  case atStart => exact ⟨0, none, 0, Nat.zero_le _, rfl, rfl, OwnG.nil _ _ _ _ _, R1.out, S1.out⟩
  case round =>
    obtain ⟨i2, B5, d5, hi2, rfl, rfl, ho5, rb2, sb⟩ := hrel
    by_cases hlt2 : i2 < cnt
    · have i3 : (i2 : Int) < (cnt : Int) := by omega
      obtain ⟨u, hu⟩ : ∃ u, (l3.drop i2).headD 0 = u := ⟨_, rfl⟩
      have hn1 : num 1 (l3.drop i2) = u.toNat := by rw [← hu]; simp [num, rdA]
      have C5 := rf_num rb2 1 (by omega) (by omega)
      rw [hn1, List.drop_drop] at C5
      have C5 := hid C5
      have HU := hid hu
      have hu9 : u.toNat < 256 := UInt8.toNat_lt _
      have hwu : IntKind.u8.wrap (u.toNat : Int) = (u.toNat : Int) := IntWalk.u8_in _ (by omega)
      have hzw := sb.size
      have hsb : i2 + 1 ≤ 4096 := by omega
      have HO5 := hid ho5
      have SB := hid sb
      clear ho5 sb rb2 hu hn1
      go_wp2_with fail
      refine C5.out.mono ?_
      rintro e0 w5 ⟨rfl, r5, s5⟩
      have ow := s5.ownG HO5.out (fun k hk e => by have := (HO5.out.lt k hk).1; omega)
      have hz5 : w.heap.size ≤ w5.heap.size := by have := s5.size; omega
      have R5 := hid r5
      have S5 := hid s5
      clear r5 s5
      go_wp2_with (at_builtin; go_must (refine wpList_append_1' rfl (.tmp 17) (.tmp 20) 22 rfl w.heap.size 5 i0 (.int .u8 0) 1 Try.underlying22 hi0 hz0 hz1 hz2 rfl ⟨0, rfl⟩ (fun _ h => h.one) rfl ow (.int .u8 u.toNat) (by rfl) ⟨u, rfl⟩ (by omega) (by unfold maxLen; omega) hz5 ?_; intro A6 c6 w6 o6 g6 x6 n6; have O6 := hid o6; have G6 := hid g6; clear o6 g6 x6 n6 ow))
      go_roundw
      case rel =>
        have hB5 : ∀ k, blk B5 = some k → w.heap.size ≤ k := fun k hk => (HO5.out.lt k hk).1
        refine ⟨i2 + 1, A6, c6, by omega, by go_num, rfl, ?_, ?_, ?_⟩
        · rw [takeZ_succ, HU.out, List.map_append]
          exact O6.out
        · refine RLr.mono (R5.out.shy (shy_of_grown G6.out) (fun e => by have := hB5 _ e; omega) (fun h0 k hk e => ?_)) (by omega)
          have h1 := hB5 k e
          rcases HAG.out k hk with h2 | h2
          · omega
          · omega
        · exact Shy.grown (SB.out.trans S5.out (fun k _ e => e)) G6.out (fun k hk hlt => by have := hB5 k hk; omega)
      case measure => simp [intOf]; omega
    · obtain rfl : i2 = cnt := by omega
      have i1 : ¬ (i2 : Int) < (i2 : Int) := by omega
      have HR := hid rb2
      have HS := hid sb
      have HO := hid ho5
      clear rb2 sb ho5
      go_wp2_with fail
      go_ret
      refine ⟨B5, d5, rfl, ?_, HR.out.mono (by omega), HS.out⟩
      have h1 := HO.out
      unfold Own
      rw [takeZ_len]
      exact h1
end
end Go.Proofs.Ytholjbnggnfapaa

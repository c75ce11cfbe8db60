/- Layer 29: the document's reader: numbers, and bytes. -/
import Derived.Test.YtholjbnggnfapaaScrA
import Derived.Test.YtholjbnggnfapaaScrP
namespace Go.Proofs.Ytholjbnggnfapaa
open Go.BK Go.BK.SC Go.RowKit
set_option linter.unusedVariables false
set_option linter.unusedSimpArgs false
/-- The document's reader in block g: it stands at i, which may be behind the end. -/
structure RfR (w : World) (g : Nat) (A : Option Addr) (c : Nat) (b : List UInt8) (i : Nat) : Prop where
  at_ : Blk w g 51 #[.slice A b.length c, .int .i64 i]
  rd : Rd w A c b
  ne : 0 < b.length → blk A ≠ some g
section
variable {w w' : World} {g c i k : Nat} {A : Option Addr} {b l : List UInt8}
theorem RfR.shy {U : Nat → Prop} (h : RfR w g A c b i) (hs : Shy U w w') (h1 : ¬ U g) (h3 : 0 < b.length → ∀ k, blk A = some k → ¬ U k) : RfR w' g A c b i := by
  refine ⟨h.at_.shy hs h1, ?_, h.ne⟩
  rcases Nat.eq_zero_or_pos b.length with h0 | h0
  · have e : b = [] := List.eq_nil_of_length_eq_zero h0
    have hr := h.rd
    subst e
    exact RdG.zero w' 1 A c (RdG.cap hr).2
  · exact hs.rd h.rd (h3 h0)
theorem RfR.ext (h : RfR w g A c b i) (hs : Ext w w') : RfR w' g A c b i := h.shy (U := fun _ => False) (Shy.of_ext hs) id fun _ _ _ => id
theorem RfR.step (h : RfR w g A c b i) : RfR (w.setCell ⟨g, 1, none⟩ (.int .i64 ((i + 1 : Nat) : Int))) g A c b (i + 1) := by
  refine ⟨?_, ?_, h.ne⟩
  · have := h.at_.set_ 1 (.int .i64 ((i + 1 : Nat) : Int))
    simpa using this
  · rcases Nat.eq_zero_or_pos b.length with h0 | h0
    · have e : b = [] := List.eq_nil_of_length_eq_zero h0
      have hr := h.rd
      subst e
      exact RdG.zero _ 1 A c (RdG.cap hr).2
    · exact (set_shy g 1 _ w).rd h.rd (fun k hk e => h.ne h0 (e ▸ hk))
theorem nf_nums (x y : Nat) (hx : x < 2 ^ 32) (hy : y < 256) : ∃ X Z : Int, 256 * (x : Int) = X ∧ Z = ((x * 256 + y : Nat) : Int) ∧ wrap64 (y : Int) = (y : Int) ∧ wrap64 (X + (y : Int)) = Z :=
  ⟨_, _, rfl, rfl, IntWalk.wrap64_in _ (by omega), by rw [IntWalk.wrap64_in _ (by omega)]; omega⟩
theorem nf_mul (x : Nat) (hx : x < 2 ^ 32) : wrap64 (256 * (x : Int)) = 256 * (x : Int) := IntWalk.wrap64_in _ (by omega)
def NfRel (w : World) (g : Nat) (A : Option Addr) (c : Nat) (b : List UInt8) (i size : Nat) (n j : Value) (wr : World) : Prop :=
  ∃ k, k ≤ size ∧ j = .int .i64 (k : Nat) ∧ n = .int .i64 (num k (b.drop i) : Nat) ∧ RfR wr g A c b (i + k) ∧ Shy (fun k => k = g) w wr
set_option maxHeartbeats 1000000 in
set_option maxRecDepth 100000 in
theorem rf_number (h : RfR w g A c b i) (size : Nat) (hsz : size ≤ 4) (hi : i ≤ 2 ^ 61) : Calls Try.prog 39 #[.pointer (some ⟨g, 0, none⟩), .int .i64 size] w fun e w' =>
    e = .returned (.int .i64 (num size (b.drop i) : Nat)) ∧ RfR w' g A c b (i + size) ∧ Shy (fun k => k = g) w w' := by
  have H := hid h
  have hn9 := h.rd.n_le
  clear h
  go_enter Try.func39, Try.ntmps39
  go_wp2_with fail
  go_loopw [5, 6] (fun n j wr => NfRel w g A c b i size n j wr) (fun _ j _ => size - (intOf j).toNat)
  case atStart => exact ⟨0, Nat.zero_le _, rfl, rfl, H.out, Shy.refl _⟩
  case round =>
    obtain ⟨k, hk, rfl, rfl, hr, hs⟩ := hrel
    by_cases hlt : k < size
    · have i1 : (k : Int) < (size : Int) := by omega
      have hlt2 := num_lt k (b.drop i)
      have hlt3 : num k (b.drop i) < 2 ^ 32 := Nat.lt_of_lt_of_le hlt2 (by have h1 : 256 ^ k ≤ 256 ^ 3 := Nat.pow_le_pow_right (by decide) (by omega); omega)
      have hsu := num_succ k (b.drop i)
      rw [List.drop_drop] at hsu
      obtain ⟨x, hx⟩ : ∃ x, num k (b.drop i) = x := ⟨_, rfl⟩
      rw [hx] at hlt3 hsu ⊢
      clear hlt2 hx
      have c0 : wr.cell? ⟨g, 0, none⟩ = some (.slice A b.length c) := hr.at_.cell 0
      have c1 : wr.cell? ⟨g, 1, none⟩ = some (.int .i64 ((i + k : Nat) : Int)) := hr.at_.cell 1
      have cf := hr.at_.frozen
      have HR := hid hr
      have HST := hid hr.step
      have HS := hid hs
      obtain ⟨q, hq⟩ : ∃ q, i + k = q := ⟨_, rfl⟩
      have hq62 : q ≤ 2 ^ 61 + 4 := by omega
      obtain ⟨n, hn⟩ : ∃ n, b.length = n := ⟨_, rfl⟩
      by_cases hin : i + k < b.length
      · obtain ⟨gb, o, hA, hgb, hcell⟩ := hr.rd.at_ hin
        have hne := hr.ne (by omega)
        subst hA
        have hd : ((b.drop (i + k)).headD 0) = b.getD (i + k) 0 := by
          rw [List.headD_eq_head?_getD, List.head?_drop]
          rfl
        rw [hd] at hsu
        obtain ⟨y, hy⟩ : ∃ y, b.getD (i + k) 0 = y := ⟨_, rfl⟩
        rw [hy] at hsu hcell
        have hyl : y.toNat < 256 := UInt8.toNat_lt _
        unfold u8v at hcell
        obtain ⟨yn, hyn⟩ : ∃ yn, y.toNat = yn := ⟨_, rfl⟩
        rw [hyn] at hcell hyl hsu
        clear hyn
        have HSU := hid hsu
        obtain ⟨X, Z, hX, hZ, hw0, hw2⟩ := nf_nums x yn hlt3 hyl
        have HX := hid hX
        have HZ := hid hZ
        rw [hq, hn] at hin
        rw [hn] at c0 hn9
        rw [hq] at c1 hcell
        have i2 : (q : Int) < (n : Int) := by omega
        have HQ := hid hq
        have HN := hid hn
        clear hr hs hsu hd hy hn hne hq hZ
        go_wp2_with fail
        go_quiet (fail)
        generalize hw2 : wr.drewN _ = w2
        have xr2 : Ext wr w2 := by rw [← hw2]; exact ext_drewN _ _
        have HR2 := hid (HR.out.ext xr2)
        have d0 : w2.cell? ⟨g, 0, none⟩ = some (.slice (some ⟨gb, o, none⟩) n c) := by rw [← HN.out]; exact HR2.out.at_.cell 0
        have d1 : w2.cell? ⟨g, 1, none⟩ = some (.int .i64 (q : Nat)) := by rw [← HQ.out]; exact HR2.out.at_.cell 1
        have d2 : w2.cell? ⟨gb, o + q, none⟩ = some (.int .u8 yn) := (xr2.cell (p := ⟨gb, o + q, none⟩) hgb).trans hcell
        have X2 := hid xr2
        clear hw2 xr2 c0 c1 hcell cf
        go_wp2_with fail
        clear hX
        go_quiet (fail)
        generalize hw3 : w2.drewN _ = w3
        have xr3 : Ext w2 w3 := by rw [← hw3]; exact ext_drewN _ _
        have HR3 := hid (HR2.out.ext xr3)
        have e1 : w3.cell? ⟨g, 1, none⟩ = some (.int .i64 (q : Nat)) := by rw [← HQ.out]; exact HR3.out.at_.cell 1
        have ef := HR3.out.at_.frozen
        have X3 := hid xr3
        clear hw3 xr3 d0 d1 d2
        go_wp2_with fail
        go_roundw
        case rel =>
          refine ⟨k + 1, by omega, by go_num, by rw [HSU.out, hw2, HZ.out], ?_, (HS.out.ext (ext_trans X2.out X3.out)).set (fun _ => rfl) 1 _⟩
          have e2 : (q : Int) + 1 = ((i + k + 1 : Nat) : Int) := by rw [← HQ.out]; simp
          rw [e2]
          exact HR3.out.step
        case measure => simp [intOf]; omega
      · have hd : ((b.drop (i + k)).headD 0) = 0 := by rw [List.drop_of_length_le (by omega)]; rfl
        rw [hd] at hsu
        have HSU := hid hsu
        have hw1 := nf_mul x hlt3
        rw [hq, hn] at hin
        rw [hn] at c0 hn9
        rw [hq] at c1
        have i2 : ¬ (q : Int) < (n : Int) := by omega
        have HQ := hid hq
        have HN := hid hn
        clear hr hs hsu hd hn hq hin
        go_wp2_with fail
        go_quiet (fail)
        generalize hw2 : wr.drewN _ = w2
        have xr2 : Ext wr w2 := by rw [← hw2]; exact ext_drewN _ _
        have HR2 := hid (HR.out.ext xr2)
        have d1 : w2.cell? ⟨g, 1, none⟩ = some (.int .i64 (q : Nat)) := by rw [← HQ.out]; exact HR2.out.at_.cell 1
        have df := HR2.out.at_.frozen
        have X2 := hid xr2
        clear hw2 xr2 c0 c1 cf
        go_wp2_with fail
        go_roundw
        case rel =>
          refine ⟨k + 1, by omega, by go_num, by rw [HSU.out]; go_num, ?_, (HS.out.ext X2.out).set (fun _ => rfl) 1 _⟩
          have e2 : (q : Int) + 1 = ((i + k + 1 : Nat) : Int) := by rw [← HQ.out]; simp
          rw [e2]
          exact HR2.out.step
        case measure => simp [intOf]; omega
    · obtain rfl : size = k := by omega
      have i1 : ¬ (size : Int) < (size : Int) := by omega
      have HR := hid hr
      have HS := hid hs
      clear hr hs
      go_wp2_with fail
      go_ret
      exact ⟨rfl, HR.out, HS.out⟩
end
end Go.Proofs.Ytholjbnggnfapaa

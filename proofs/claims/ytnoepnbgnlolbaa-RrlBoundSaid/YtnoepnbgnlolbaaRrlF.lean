/- Layer 19: Judge, of a key that is looked after. -/
import Derived.Test.YtnoepnbgnlolbaaRrlB
namespace Go.Proofs.Ytnoepnbgnlolbaa
open Go.BK Go.RowKit Go.Maps
set_option linter.unusedVariables false
theorem shy_drewN {U : Nat → Prop} (w : World) (n : Nat) : Shy U w (w.drewN n) := ⟨rfl, rfl, rfl, Nat.le_refl _, fun _ _ _ => rfl⟩
/-- What becomes of a key's window and count. -/
def bumpB (p : Par) (now b : Int) : Int := if overB p now b = true then now else b
def bumpK (p : Par) (now b k : Int) : Int := if overB p now b = true then 1 else min (k + 1) 1073741824
def codeS (p : Par) (k : Int) : Int := if k - p.limit ≤ 0 then 0 else if 0 < p.slip ∧ (k - p.limit) % p.slip = 0 then 1 else 2
def bump (p : Par) (now : Int) (r : Row) : Row := (⟨r.1.c, r.1.n, bumpB p now r.1.b, bumpK p now r.1.b r.1.k⟩, r.2)
def JudgeF (w w' : World) (e : Ending) (g mb : Nat) (A : Option Addr) (cc : Nat) (p : Par) (now : Int) (P1 P2 : List Row) (r : Row) : Prop :=
  e = .returned (.int .i64 (codeS p (bumpK p now r.1.b r.1.k))) ∧ LimB w' g mb A cc p now (P1 ++ bump p now r :: P2) ∧ Shy (fun k => k = g ∨ k = r.2) w w'
set_option maxHeartbeats 4000000 in
set_option maxRecDepth 100000 in
theorem judge_found_t {w : World} {g mb : Nat} {A : Option Addr} {cc : Nat} {p : Par} {now : Int} {P1 P2 : List Row} (r : Row) (t : Int) (h : LimB w g mb A cc p now (P1 ++ r :: P2)) (ht : 0 ≤ t ∧ t ≤ 1099511627776) (hle : now < t) :
    Calls Try.prog 9 #[.pointer (some ⟨g, 0, none⟩), .int .i64 r.1.c, .string r.1.n, .int .i64 t] w fun e w' => JudgeF w w' e g mb A cc p t P1 P2 r := by
  obtain ⟨⟨c, n, b, k⟩, tb⟩ := r
  obtain ⟨hp1, hp2, hp3, hp4, hp5, hp6, hp7, hp8⟩ := h.2.2.2.2.1
  have hn0 := h.2.2.2.2.2.1
  have hn1 := h.2.2.2.2.2.2.1
  have hr := h.2.2.2.2.2.2.2.2.1 (⟨c, n, b, k⟩, tb) (by simp)
  obtain ⟨⟨hrc, hrn⟩, hb0, hb1, hk0, hk1⟩ := hr
  obtain ⟨c0, _, _, _, c4, _, _, cf⟩ := h.cells
  obtain ⟨ht0, ht1⟩ := ht
  have L1 := h.now' t ⟨by omega, by omega⟩
  have s1 := set_shy g 4 (.int .i64 t) w
  have q1 : (p.most == 0) = false := by simp; omega
  have L2 := L1.ext (ext_alloc _ (.cells #[.int .i64 c, .string n] 46))
  have s2 := s1.ext (ext_alloc _ (.cells #[.int .i64 c, .string n] 46))
  have KB := Blk.new (w.setCell ⟨g, 4, none⟩ (.int .i64 t)) 46 #[.int .i64 c, .string n]
  rw [show (w.setCell ⟨g, 4, none⟩ (.int .i64 t)).heap.size = w.heap.size from by simp [World.setCell]] at KB
  have hkb : wfK c n := ⟨hrc, hrn⟩
  clear h L1 s1
  simp only at hb0 hb1 hk0 hk1 hrn hrc
  have q2 : decide ((255 : Int) < (n.size : Int)) = false := by simp; omega
  have q3 : decide (t < 0) = false := by simp; omega
  have q4 : decide ((1099511627776 : Int) < t) = false := by simp; omega
  have hmx : max now t = t := by omega
  go_enter Try.func9, Try.ntmps9
  go_wp2_with fail
  generalize (w.setCell ⟨g, 4, none⟩ (.int .i64 t)).alloc (.cells #[.int .i64 c, .string n] 46) = wA at L2 s2 KB ⊢
  have hlk : ∀ nq, (Instr.lookup 24 (.map (some mb)) (.agg #[.int .i64 c, .string n]) true).run Try.prog (wA.drewN nq) = .ok (.tuple #[.pointer (some ⟨tb, 0, none⟩), .bool true]) (wA.drewN nq) := by
    intro nq
    have hl := (L2.2.1.ext (ext_drewN wA nq)).look (t := 24) keyed Try.underlying24 (zero_ptr _) (kl_key hkb) true
    rw [tab_at (r := (⟨c, n, b, k⟩, tb)) L2.2.2.2.2.2.2.2.2.1 L2.2.2.2.2.2.2.2.2.2.1] at hl
    exact hl
  clear c0 c4 cf
  obtain ⟨d0, d1, d2, d3, d4, d5, d6, df⟩ := L2.cells
  have KT := L2.2.2.2.1 (⟨c, n, b, k⟩, tb) (by simp)
  obtain ⟨t0, t1, tf⟩ := KT.two
  obtain ⟨e0, e1, ef⟩ := KB.two
  have hov : ∀ nq, Calls Try.prog 16 #[.pointer (some ⟨g, 0, none⟩), .pointer (some ⟨tb, 0, none⟩)] (wA.drewN nq) fun e w' => e = .returned (.bool (overB p t b)) ∧ ∃ n, w' = (wA.drewN nq).drewN n :=
    fun nq => over_any (L2.ext (ext_drewN wA nq)) (KT.ext (ext_drewN wA nq)) ⟨hb0, hb1⟩
  have hov := hid hov
  have L2 := hid L2
  have KT := hid KT
  have s2 := hid s2
  have hgt : g ≠ tb := L2.out.gr (r := (⟨c, n, b, k⟩, tb)) (by simp)
  have hgt' : tb ≠ g := Ne.symm hgt
  clear KB hmx
  have hend : ∀ (W : World) (b' k' : Int), Shy (fun j => j = tb) wA W → Blk W tb 50 #[.int .i64 b', .int .i64 k'] → b' = bumpB p t b → k' = bumpK p t b k → ∀ e, e = .returned (.int .i64 (codeS p k')) → 0 ≤ b' ∧ b' ≤ 1099511627776 → 0 ≤ k' ∧ k' ≤ 1073741824 → JudgeF w W e g mb A cc p t P1 P2 (⟨c, n, b, k⟩, tb) := by
    intro W b' k' hs hb hb' hk' e he h1 h2
    refine ⟨by rw [he, hk'], ?_, Shy.trans (s2.out.mono fun _ _ h => .inl h) hs fun _ _ h => .inr h⟩
    have := L2.out.turn b' k' h1 h2 hs hb
    rw [hb', hk'] at this
    exact this
  have hend := hid hend
  have hlim := hid L2.out.cells
  have hlt := hid L2.out.lt
  by_cases hO : overB p t b = true
  · have HB := hid (show bumpB p t b = t by unfold bumpB; rw [if_pos hO])
    have HK := hid (show bumpK p t b k = 1 by unfold bumpK; rw [if_pos hO])
    rw [hO] at hov
    clear hO
    rcases (show (1) - p.limit ≤ 0 ∨ (0 < (1) - p.limit ∧ p.slip = 0) ∨ (0 < (1) - p.limit ∧ 0 < p.slip ∧ ((1) - p.limit) % p.slip = 0) ∨ (0 < (1) - p.limit ∧ 0 < p.slip ∧ ¬ ((1) - p.limit) % p.slip = 0) by omega) with hA | ⟨hA, hB⟩ | ⟨hA, hB, hC⟩ | ⟨hA, hB, hC⟩
    · have hcode := hid (show codeS p (1) = 0 by unfold codeS; rw [if_pos hA])
      have y1 : decide (0 < (1) - p.limit) = false := by simp; omega
      go_quiet (fail)
      go_wp2_with fail
      refine (hov.out _).mono ?_
      rintro e _ ⟨rfl, nq2, rfl⟩
      go_wp2_with fail
      have hB2 : Blk ((((wA.drewN (nq + nq2)).setCell ⟨tb, 0, none⟩ (.int .i64 t)).setCell ⟨tb, 1, none⟩ (.int .i64 0)).setCell ⟨tb, 1, none⟩ (.int .i64 1)) tb 50 #[.int .i64 (t), .int .i64 (1)] := (((KT.out.drewN (nq + nq2)).set_ 0 (.int .i64 t)).set_ 1 (.int .i64 0)).set_ 1 (.int .i64 1)
      have hS2 : Shy (fun j => j = tb) wA ((((wA.drewN (nq + nq2)).setCell ⟨tb, 0, none⟩ (.int .i64 t)).setCell ⟨tb, 1, none⟩ (.int .i64 0)).setCell ⟨tb, 1, none⟩ (.int .i64 1)) := Shy.trans (Shy.trans (Shy.trans (shy_drewN (U := fun j => j = tb) _ _) (set_shy tb 0 _ _) fun _ _ h => h) (set_shy tb 1 _ _) fun _ _ h => h) (set_shy tb 1 _ _) fun _ _ h => h
      generalize ((((wA.drewN (nq + nq2)).setCell ⟨tb, 0, none⟩ (.int .i64 t)).setCell ⟨tb, 1, none⟩ (.int .i64 0)).setCell ⟨tb, 1, none⟩ (.int .i64 1)) = wB at hB2 hS2 ⊢
      clear d0 d1 d2 d3 d4 d5 d6 df t0 t1 tf e0 e1 ef hlk
      obtain ⟨_, d1, _, d3, _, _, _, df⟩ := hlim.out
      have hg' : ∀ i, wB.cell? ⟨g, i, none⟩ = wA.cell? ⟨g, i, none⟩ := fun i => World.cell?_of_block (hS2.block g (hlt.out g (.inl rfl)) hgt)
      have z1 : wB.cell? ⟨g, 1, none⟩ = some (.int .i64 p.limit) := (hg' 1).trans d1
      have z3 : wB.cell? ⟨g, 3, none⟩ = some (.int .i64 p.slip) := (hg' 3).trans d3
      have z4 : wB.cell? ⟨tb, 1, none⟩ = some (.int .i64 (1)) := hB2.cell 1
      have hB2 := hid hB2
      have hS2 := hid hS2
      clear hg' d1 d3 df
      go_quiet (fail)
      go_wp2_with fail
      go_ret
      exact hend.out _ _ _ (Shy.trans hS2.out (shy_drewN (U := fun j => j = tb) _ _) fun _ _ h => h) (hB2.out.drewN _) HB.out.symm HK.out.symm _ (by rw [hcode.out]; rfl) (by omega) (by omega)
    · have hcode := hid (show codeS p (1) = 2 by unfold codeS; rw [if_neg (by omega), if_neg (by omega)])
      go_quiet (fail)
      go_wp2_with fail
      refine (hov.out _).mono ?_
      rintro e _ ⟨rfl, nq2, rfl⟩
      go_wp2_with fail
      have hB2 : Blk ((((wA.drewN (nq + nq2)).setCell ⟨tb, 0, none⟩ (.int .i64 t)).setCell ⟨tb, 1, none⟩ (.int .i64 0)).setCell ⟨tb, 1, none⟩ (.int .i64 1)) tb 50 #[.int .i64 (t), .int .i64 (1)] := (((KT.out.drewN (nq + nq2)).set_ 0 (.int .i64 t)).set_ 1 (.int .i64 0)).set_ 1 (.int .i64 1)
      have hS2 : Shy (fun j => j = tb) wA ((((wA.drewN (nq + nq2)).setCell ⟨tb, 0, none⟩ (.int .i64 t)).setCell ⟨tb, 1, none⟩ (.int .i64 0)).setCell ⟨tb, 1, none⟩ (.int .i64 1)) := Shy.trans (Shy.trans (Shy.trans (shy_drewN (U := fun j => j = tb) _ _) (set_shy tb 0 _ _) fun _ _ h => h) (set_shy tb 1 _ _) fun _ _ h => h) (set_shy tb 1 _ _) fun _ _ h => h
      generalize ((((wA.drewN (nq + nq2)).setCell ⟨tb, 0, none⟩ (.int .i64 t)).setCell ⟨tb, 1, none⟩ (.int .i64 0)).setCell ⟨tb, 1, none⟩ (.int .i64 1)) = wB at hB2 hS2 ⊢
      clear d0 d1 d2 d3 d4 d5 d6 df t0 t1 tf e0 e1 ef hlk
      obtain ⟨_, d1, _, d3, _, _, _, df⟩ := hlim.out
      have hg' : ∀ i, wB.cell? ⟨g, i, none⟩ = wA.cell? ⟨g, i, none⟩ := fun i => World.cell?_of_block (hS2.block g (hlt.out g (.inl rfl)) hgt)
      have z1 : wB.cell? ⟨g, 1, none⟩ = some (.int .i64 p.limit) := (hg' 1).trans d1
      have z3 : wB.cell? ⟨g, 3, none⟩ = some (.int .i64 p.slip) := (hg' 3).trans d3
      have z4 : wB.cell? ⟨tb, 1, none⟩ = some (.int .i64 (1)) := hB2.cell 1
      have hB2 := hid hB2
      have hS2 := hid hS2
      clear hg' d1 d3 df
      go_quiet (fail)
      go_wp2_with fail
      go_ret
      exact hend.out _ _ _ (Shy.trans hS2.out (shy_drewN (U := fun j => j = tb) _ _) fun _ _ h => h) (hB2.out.drewN _) HB.out.symm HK.out.symm _ (by rw [hcode.out]; rfl) (by omega) (by omega)
    · have hcode := hid (show codeS p (1) = 1 by unfold codeS; rw [if_neg (by omega), if_pos ⟨hB, hC⟩])
      have y3 : ((((1) - p.limit) % p.slip) == 0) = true := by simpa using hC
      clear hC
      go_quiet (fail)
      go_wp2_with fail
      refine (hov.out _).mono ?_
      rintro e _ ⟨rfl, nq2, rfl⟩
      go_wp2_with fail
      have hB2 : Blk ((((wA.drewN (nq + nq2)).setCell ⟨tb, 0, none⟩ (.int .i64 t)).setCell ⟨tb, 1, none⟩ (.int .i64 0)).setCell ⟨tb, 1, none⟩ (.int .i64 1)) tb 50 #[.int .i64 (t), .int .i64 (1)] := (((KT.out.drewN (nq + nq2)).set_ 0 (.int .i64 t)).set_ 1 (.int .i64 0)).set_ 1 (.int .i64 1)
      have hS2 : Shy (fun j => j = tb) wA ((((wA.drewN (nq + nq2)).setCell ⟨tb, 0, none⟩ (.int .i64 t)).setCell ⟨tb, 1, none⟩ (.int .i64 0)).setCell ⟨tb, 1, none⟩ (.int .i64 1)) := Shy.trans (Shy.trans (Shy.trans (shy_drewN (U := fun j => j = tb) _ _) (set_shy tb 0 _ _) fun _ _ h => h) (set_shy tb 1 _ _) fun _ _ h => h) (set_shy tb 1 _ _) fun _ _ h => h
      generalize ((((wA.drewN (nq + nq2)).setCell ⟨tb, 0, none⟩ (.int .i64 t)).setCell ⟨tb, 1, none⟩ (.int .i64 0)).setCell ⟨tb, 1, none⟩ (.int .i64 1)) = wB at hB2 hS2 ⊢
      clear d0 d1 d2 d3 d4 d5 d6 df t0 t1 tf e0 e1 ef hlk
      obtain ⟨_, d1, _, d3, _, _, _, df⟩ := hlim.out
      have hg' : ∀ i, wB.cell? ⟨g, i, none⟩ = wA.cell? ⟨g, i, none⟩ := fun i => World.cell?_of_block (hS2.block g (hlt.out g (.inl rfl)) hgt)
      have z1 : wB.cell? ⟨g, 1, none⟩ = some (.int .i64 p.limit) := (hg' 1).trans d1
      have z3 : wB.cell? ⟨g, 3, none⟩ = some (.int .i64 p.slip) := (hg' 3).trans d3
      have z4 : wB.cell? ⟨tb, 1, none⟩ = some (.int .i64 (1)) := hB2.cell 1
      have hB2 := hid hB2
      have hS2 := hid hS2
      clear hg' d1 d3 df
      go_quiet (fail)
      go_wp2_with fail
      go_ret
      exact hend.out _ _ _ (Shy.trans hS2.out (shy_drewN (U := fun j => j = tb) _ _) fun _ _ h => h) (hB2.out.drewN _) HB.out.symm HK.out.symm _ (by rw [hcode.out]; rfl) (by omega) (by omega)
    · have hcode := hid (show codeS p (1) = 2 by unfold codeS; rw [if_neg (by omega), if_neg (fun h => hC h.2)])
      have y3 : ((((1) - p.limit) % p.slip) == 0) = false := by simpa using hC
      clear hC
      go_quiet (fail)
      go_wp2_with fail
      refine (hov.out _).mono ?_
      rintro e _ ⟨rfl, nq2, rfl⟩
      go_wp2_with fail
      have hB2 : Blk ((((wA.drewN (nq + nq2)).setCell ⟨tb, 0, none⟩ (.int .i64 t)).setCell ⟨tb, 1, none⟩ (.int .i64 0)).setCell ⟨tb, 1, none⟩ (.int .i64 1)) tb 50 #[.int .i64 (t), .int .i64 (1)] := (((KT.out.drewN (nq + nq2)).set_ 0 (.int .i64 t)).set_ 1 (.int .i64 0)).set_ 1 (.int .i64 1)
      have hS2 : Shy (fun j => j = tb) wA ((((wA.drewN (nq + nq2)).setCell ⟨tb, 0, none⟩ (.int .i64 t)).setCell ⟨tb, 1, none⟩ (.int .i64 0)).setCell ⟨tb, 1, none⟩ (.int .i64 1)) := Shy.trans (Shy.trans (Shy.trans (shy_drewN (U := fun j => j = tb) _ _) (set_shy tb 0 _ _) fun _ _ h => h) (set_shy tb 1 _ _) fun _ _ h => h) (set_shy tb 1 _ _) fun _ _ h => h
      generalize ((((wA.drewN (nq + nq2)).setCell ⟨tb, 0, none⟩ (.int .i64 t)).setCell ⟨tb, 1, none⟩ (.int .i64 0)).setCell ⟨tb, 1, none⟩ (.int .i64 1)) = wB at hB2 hS2 ⊢
      clear d0 d1 d2 d3 d4 d5 d6 df t0 t1 tf e0 e1 ef hlk
      obtain ⟨_, d1, _, d3, _, _, _, df⟩ := hlim.out
      have hg' : ∀ i, wB.cell? ⟨g, i, none⟩ = wA.cell? ⟨g, i, none⟩ := fun i => World.cell?_of_block (hS2.block g (hlt.out g (.inl rfl)) hgt)
      have z1 : wB.cell? ⟨g, 1, none⟩ = some (.int .i64 p.limit) := (hg' 1).trans d1
      have z3 : wB.cell? ⟨g, 3, none⟩ = some (.int .i64 p.slip) := (hg' 3).trans d3
      have z4 : wB.cell? ⟨tb, 1, none⟩ = some (.int .i64 (1)) := hB2.cell 1
      have hB2 := hid hB2
      have hS2 := hid hS2
      clear hg' d1 d3 df
      go_quiet (fail)
      go_wp2_with fail
      go_ret
      exact hend.out _ _ _ (Shy.trans hS2.out (shy_drewN (U := fun j => j = tb) _ _) fun _ _ h => h) (hB2.out.drewN _) HB.out.symm HK.out.symm _ (by rw [hcode.out]; rfl) (by omega) (by omega)
  · have HB := hid (show bumpB p t b = b by unfold bumpB; rw [if_neg hO])
    have HK := hid (show bumpK p t b k = min (k + 1) 1073741824 by unfold bumpK; rw [if_neg hO])
    have hO' : overB p t b = false := by simpa using hO
    rw [hO'] at hov
    clear hO hO'
    rcases (show k = 1073741824 ∨ k < 1073741824 by omega) with hk | hk
    · subst hk
      have HK := hid (show bumpK p t b 1073741824 = 1073741824 by rw [HK.out]; decide)
      rcases (show (1073741824) - p.limit ≤ 0 ∨ (0 < (1073741824) - p.limit ∧ p.slip = 0) ∨ (0 < (1073741824) - p.limit ∧ 0 < p.slip ∧ ((1073741824) - p.limit) % p.slip = 0) ∨ (0 < (1073741824) - p.limit ∧ 0 < p.slip ∧ ¬ ((1073741824) - p.limit) % p.slip = 0) by omega) with hA | ⟨hA, hB⟩ | ⟨hA, hB, hC⟩ | ⟨hA, hB, hC⟩
      · have hcode := hid (show codeS p (1073741824) = 0 by unfold codeS; rw [if_pos hA])
        have y1 : decide (0 < (1073741824) - p.limit) = false := by simp; omega
        go_quiet (fail)
        go_wp2_with fail
        refine (hov.out _).mono ?_
        rintro e _ ⟨rfl, nq2, rfl⟩
        go_wp2_with fail
        have hB2 : Blk ((wA.drewN (nq + nq2)).setCell ⟨tb, 1, none⟩ (.int .i64 (1073741824))) tb 50 #[.int .i64 (b), .int .i64 (1073741824)] := (KT.out.drewN (nq + nq2)).set_ 1 (.int .i64 (1073741824))
        have hS2 : Shy (fun j => j = tb) wA ((wA.drewN (nq + nq2)).setCell ⟨tb, 1, none⟩ (.int .i64 (1073741824))) := Shy.trans (shy_drewN (U := fun j => j = tb) _ _) (set_shy tb 1 _ _) fun _ _ h => h
        generalize ((wA.drewN (nq + nq2)).setCell ⟨tb, 1, none⟩ (.int .i64 (1073741824))) = wB at hB2 hS2 ⊢
        clear d0 d1 d2 d3 d4 d5 d6 df t0 t1 tf e0 e1 ef hlk
        obtain ⟨_, d1, _, d3, _, _, _, df⟩ := hlim.out
        have hg' : ∀ i, wB.cell? ⟨g, i, none⟩ = wA.cell? ⟨g, i, none⟩ := fun i => World.cell?_of_block (hS2.block g (hlt.out g (.inl rfl)) hgt)
        have z1 : wB.cell? ⟨g, 1, none⟩ = some (.int .i64 p.limit) := (hg' 1).trans d1
        have z3 : wB.cell? ⟨g, 3, none⟩ = some (.int .i64 p.slip) := (hg' 3).trans d3
        have z4 : wB.cell? ⟨tb, 1, none⟩ = some (.int .i64 (1073741824)) := hB2.cell 1
        have hB2 := hid hB2
        have hS2 := hid hS2
        clear hg' d1 d3 df
        go_quiet (fail)
        go_wp2_with fail
        go_ret
        exact hend.out _ _ _ (Shy.trans hS2.out (shy_drewN (U := fun j => j = tb) _ _) fun _ _ h => h) (hB2.out.drewN _) HB.out.symm HK.out.symm _ (by rw [hcode.out]; rfl) (by omega) (by omega)
      · have hcode := hid (show codeS p (1073741824) = 2 by unfold codeS; rw [if_neg (by omega), if_neg (by omega)])
        go_quiet (fail)
        go_wp2_with fail
        refine (hov.out _).mono ?_
        rintro e _ ⟨rfl, nq2, rfl⟩
        go_wp2_with fail
        have hB2 : Blk ((wA.drewN (nq + nq2)).setCell ⟨tb, 1, none⟩ (.int .i64 (1073741824))) tb 50 #[.int .i64 (b), .int .i64 (1073741824)] := (KT.out.drewN (nq + nq2)).set_ 1 (.int .i64 (1073741824))
        have hS2 : Shy (fun j => j = tb) wA ((wA.drewN (nq + nq2)).setCell ⟨tb, 1, none⟩ (.int .i64 (1073741824))) := Shy.trans (shy_drewN (U := fun j => j = tb) _ _) (set_shy tb 1 _ _) fun _ _ h => h
        generalize ((wA.drewN (nq + nq2)).setCell ⟨tb, 1, none⟩ (.int .i64 (1073741824))) = wB at hB2 hS2 ⊢
        clear d0 d1 d2 d3 d4 d5 d6 df t0 t1 tf e0 e1 ef hlk
        obtain ⟨_, d1, _, d3, _, _, _, df⟩ := hlim.out
        have hg' : ∀ i, wB.cell? ⟨g, i, none⟩ = wA.cell? ⟨g, i, none⟩ := fun i => World.cell?_of_block (hS2.block g (hlt.out g (.inl rfl)) hgt)
        have z1 : wB.cell? ⟨g, 1, none⟩ = some (.int .i64 p.limit) := (hg' 1).trans d1
        have z3 : wB.cell? ⟨g, 3, none⟩ = some (.int .i64 p.slip) := (hg' 3).trans d3
        have z4 : wB.cell? ⟨tb, 1, none⟩ = some (.int .i64 (1073741824)) := hB2.cell 1
        have hB2 := hid hB2
        have hS2 := hid hS2
        clear hg' d1 d3 df
        go_quiet (fail)
        go_wp2_with fail
        go_ret
        exact hend.out _ _ _ (Shy.trans hS2.out (shy_drewN (U := fun j => j = tb) _ _) fun _ _ h => h) (hB2.out.drewN _) HB.out.symm HK.out.symm _ (by rw [hcode.out]; rfl) (by omega) (by omega)
      · have hcode := hid (show codeS p (1073741824) = 1 by unfold codeS; rw [if_neg (by omega), if_pos ⟨hB, hC⟩])
        have y3 : ((((1073741824) - p.limit) % p.slip) == 0) = true := by simpa using hC
        clear hC
        go_quiet (fail)
        go_wp2_with fail
        refine (hov.out _).mono ?_
        rintro e _ ⟨rfl, nq2, rfl⟩
        go_wp2_with fail
        have hB2 : Blk ((wA.drewN (nq + nq2)).setCell ⟨tb, 1, none⟩ (.int .i64 (1073741824))) tb 50 #[.int .i64 (b), .int .i64 (1073741824)] := (KT.out.drewN (nq + nq2)).set_ 1 (.int .i64 (1073741824))
        have hS2 : Shy (fun j => j = tb) wA ((wA.drewN (nq + nq2)).setCell ⟨tb, 1, none⟩ (.int .i64 (1073741824))) := Shy.trans (shy_drewN (U := fun j => j = tb) _ _) (set_shy tb 1 _ _) fun _ _ h => h
        generalize ((wA.drewN (nq + nq2)).setCell ⟨tb, 1, none⟩ (.int .i64 (1073741824))) = wB at hB2 hS2 ⊢
        clear d0 d1 d2 d3 d4 d5 d6 df t0 t1 tf e0 e1 ef hlk
        obtain ⟨_, d1, _, d3, _, _, _, df⟩ := hlim.out
        have hg' : ∀ i, wB.cell? ⟨g, i, none⟩ = wA.cell? ⟨g, i, none⟩ := fun i => World.cell?_of_block (hS2.block g (hlt.out g (.inl rfl)) hgt)
        have z1 : wB.cell? ⟨g, 1, none⟩ = some (.int .i64 p.limit) := (hg' 1).trans d1
        have z3 : wB.cell? ⟨g, 3, none⟩ = some (.int .i64 p.slip) := (hg' 3).trans d3
        have z4 : wB.cell? ⟨tb, 1, none⟩ = some (.int .i64 (1073741824)) := hB2.cell 1
        have hB2 := hid hB2
        have hS2 := hid hS2
        clear hg' d1 d3 df
        go_quiet (fail)
        go_wp2_with fail
        go_ret
        exact hend.out _ _ _ (Shy.trans hS2.out (shy_drewN (U := fun j => j = tb) _ _) fun _ _ h => h) (hB2.out.drewN _) HB.out.symm HK.out.symm _ (by rw [hcode.out]; rfl) (by omega) (by omega)
      · have hcode := hid (show codeS p (1073741824) = 2 by unfold codeS; rw [if_neg (by omega), if_neg (fun h => hC h.2)])
        have y3 : ((((1073741824) - p.limit) % p.slip) == 0) = false := by simpa using hC
        clear hC
        go_quiet (fail)
        go_wp2_with fail
        refine (hov.out _).mono ?_
        rintro e _ ⟨rfl, nq2, rfl⟩
        go_wp2_with fail
        have hB2 : Blk ((wA.drewN (nq + nq2)).setCell ⟨tb, 1, none⟩ (.int .i64 (1073741824))) tb 50 #[.int .i64 (b), .int .i64 (1073741824)] := (KT.out.drewN (nq + nq2)).set_ 1 (.int .i64 (1073741824))
        have hS2 : Shy (fun j => j = tb) wA ((wA.drewN (nq + nq2)).setCell ⟨tb, 1, none⟩ (.int .i64 (1073741824))) := Shy.trans (shy_drewN (U := fun j => j = tb) _ _) (set_shy tb 1 _ _) fun _ _ h => h
        generalize ((wA.drewN (nq + nq2)).setCell ⟨tb, 1, none⟩ (.int .i64 (1073741824))) = wB at hB2 hS2 ⊢
        clear d0 d1 d2 d3 d4 d5 d6 df t0 t1 tf e0 e1 ef hlk
        obtain ⟨_, d1, _, d3, _, _, _, df⟩ := hlim.out
        have hg' : ∀ i, wB.cell? ⟨g, i, none⟩ = wA.cell? ⟨g, i, none⟩ := fun i => World.cell?_of_block (hS2.block g (hlt.out g (.inl rfl)) hgt)
        have z1 : wB.cell? ⟨g, 1, none⟩ = some (.int .i64 p.limit) := (hg' 1).trans d1
        have z3 : wB.cell? ⟨g, 3, none⟩ = some (.int .i64 p.slip) := (hg' 3).trans d3
        have z4 : wB.cell? ⟨tb, 1, none⟩ = some (.int .i64 (1073741824)) := hB2.cell 1
        have hB2 := hid hB2
        have hS2 := hid hS2
        clear hg' d1 d3 df
        go_quiet (fail)
        go_wp2_with fail
        go_ret
        exact hend.out _ _ _ (Shy.trans hS2.out (shy_drewN (U := fun j => j = tb) _ _) fun _ _ h => h) (hB2.out.drewN _) HB.out.symm HK.out.symm _ (by rw [hcode.out]; rfl) (by omega) (by omega)
    · have HK := hid (show bumpK p t b k = k + 1 by rw [HK.out]; omega)
      rcases (show (k + 1) - p.limit ≤ 0 ∨ (0 < (k + 1) - p.limit ∧ p.slip = 0) ∨ (0 < (k + 1) - p.limit ∧ 0 < p.slip ∧ ((k + 1) - p.limit) % p.slip = 0) ∨ (0 < (k + 1) - p.limit ∧ 0 < p.slip ∧ ¬ ((k + 1) - p.limit) % p.slip = 0) by omega) with hA | ⟨hA, hB⟩ | ⟨hA, hB, hC⟩ | ⟨hA, hB, hC⟩
      · have hcode := hid (show codeS p (k + 1) = 0 by unfold codeS; rw [if_pos hA])
        have y1 : decide (0 < (k + 1) - p.limit) = false := by simp; omega
        go_quiet (fail)
        go_wp2_with fail
        refine (hov.out _).mono ?_
        rintro e _ ⟨rfl, nq2, rfl⟩
        go_wp2_with fail
        have hB2 : Blk ((wA.drewN (nq + nq2)).setCell ⟨tb, 1, none⟩ (.int .i64 (k + 1))) tb 50 #[.int .i64 (b), .int .i64 (k + 1)] := (KT.out.drewN (nq + nq2)).set_ 1 (.int .i64 (k + 1))
        have hS2 : Shy (fun j => j = tb) wA ((wA.drewN (nq + nq2)).setCell ⟨tb, 1, none⟩ (.int .i64 (k + 1))) := Shy.trans (shy_drewN (U := fun j => j = tb) _ _) (set_shy tb 1 _ _) fun _ _ h => h
        generalize ((wA.drewN (nq + nq2)).setCell ⟨tb, 1, none⟩ (.int .i64 (k + 1))) = wB at hB2 hS2 ⊢
        clear d0 d1 d2 d3 d4 d5 d6 df t0 t1 tf e0 e1 ef hlk
        obtain ⟨_, d1, _, d3, _, _, _, df⟩ := hlim.out
        have hg' : ∀ i, wB.cell? ⟨g, i, none⟩ = wA.cell? ⟨g, i, none⟩ := fun i => World.cell?_of_block (hS2.block g (hlt.out g (.inl rfl)) hgt)
        have z1 : wB.cell? ⟨g, 1, none⟩ = some (.int .i64 p.limit) := (hg' 1).trans d1
        have z3 : wB.cell? ⟨g, 3, none⟩ = some (.int .i64 p.slip) := (hg' 3).trans d3
        have z4 : wB.cell? ⟨tb, 1, none⟩ = some (.int .i64 (k + 1)) := hB2.cell 1
        have hB2 := hid hB2
        have hS2 := hid hS2
        clear hg' d1 d3 df
        go_quiet (fail)
        go_wp2_with fail
        go_ret
        exact hend.out _ _ _ (Shy.trans hS2.out (shy_drewN (U := fun j => j = tb) _ _) fun _ _ h => h) (hB2.out.drewN _) HB.out.symm HK.out.symm _ (by rw [hcode.out]; rfl) (by omega) (by omega)
      · have hcode := hid (show codeS p (k + 1) = 2 by unfold codeS; rw [if_neg (by omega), if_neg (by omega)])
        go_quiet (fail)
        go_wp2_with fail
        refine (hov.out _).mono ?_
        rintro e _ ⟨rfl, nq2, rfl⟩
        go_wp2_with fail
        have hB2 : Blk ((wA.drewN (nq + nq2)).setCell ⟨tb, 1, none⟩ (.int .i64 (k + 1))) tb 50 #[.int .i64 (b), .int .i64 (k + 1)] := (KT.out.drewN (nq + nq2)).set_ 1 (.int .i64 (k + 1))
        have hS2 : Shy (fun j => j = tb) wA ((wA.drewN (nq + nq2)).setCell ⟨tb, 1, none⟩ (.int .i64 (k + 1))) := Shy.trans (shy_drewN (U := fun j => j = tb) _ _) (set_shy tb 1 _ _) fun _ _ h => h
        generalize ((wA.drewN (nq + nq2)).setCell ⟨tb, 1, none⟩ (.int .i64 (k + 1))) = wB at hB2 hS2 ⊢
        clear d0 d1 d2 d3 d4 d5 d6 df t0 t1 tf e0 e1 ef hlk
        obtain ⟨_, d1, _, d3, _, _, _, df⟩ := hlim.out
        have hg' : ∀ i, wB.cell? ⟨g, i, none⟩ = wA.cell? ⟨g, i, none⟩ := fun i => World.cell?_of_block (hS2.block g (hlt.out g (.inl rfl)) hgt)
        have z1 : wB.cell? ⟨g, 1, none⟩ = some (.int .i64 p.limit) := (hg' 1).trans d1
        have z3 : wB.cell? ⟨g, 3, none⟩ = some (.int .i64 p.slip) := (hg' 3).trans d3
        have z4 : wB.cell? ⟨tb, 1, none⟩ = some (.int .i64 (k + 1)) := hB2.cell 1
        have hB2 := hid hB2
        have hS2 := hid hS2
        clear hg' d1 d3 df
        go_quiet (fail)
        go_wp2_with fail
        go_ret
        exact hend.out _ _ _ (Shy.trans hS2.out (shy_drewN (U := fun j => j = tb) _ _) fun _ _ h => h) (hB2.out.drewN _) HB.out.symm HK.out.symm _ (by rw [hcode.out]; rfl) (by omega) (by omega)
      · have hcode := hid (show codeS p (k + 1) = 1 by unfold codeS; rw [if_neg (by omega), if_pos ⟨hB, hC⟩])
        have y3 : ((((k + 1) - p.limit) % p.slip) == 0) = true := by simpa using hC
        clear hC
        go_quiet (fail)
        go_wp2_with fail
        refine (hov.out _).mono ?_
        rintro e _ ⟨rfl, nq2, rfl⟩
        go_wp2_with fail
        have hB2 : Blk ((wA.drewN (nq + nq2)).setCell ⟨tb, 1, none⟩ (.int .i64 (k + 1))) tb 50 #[.int .i64 (b), .int .i64 (k + 1)] := (KT.out.drewN (nq + nq2)).set_ 1 (.int .i64 (k + 1))
        have hS2 : Shy (fun j => j = tb) wA ((wA.drewN (nq + nq2)).setCell ⟨tb, 1, none⟩ (.int .i64 (k + 1))) := Shy.trans (shy_drewN (U := fun j => j = tb) _ _) (set_shy tb 1 _ _) fun _ _ h => h
        generalize ((wA.drewN (nq + nq2)).setCell ⟨tb, 1, none⟩ (.int .i64 (k + 1))) = wB at hB2 hS2 ⊢
        clear d0 d1 d2 d3 d4 d5 d6 df t0 t1 tf e0 e1 ef hlk
        obtain ⟨_, d1, _, d3, _, _, _, df⟩ := hlim.out
        have hg' : ∀ i, wB.cell? ⟨g, i, none⟩ = wA.cell? ⟨g, i, none⟩ := fun i => World.cell?_of_block (hS2.block g (hlt.out g (.inl rfl)) hgt)
        have z1 : wB.cell? ⟨g, 1, none⟩ = some (.int .i64 p.limit) := (hg' 1).trans d1
        have z3 : wB.cell? ⟨g, 3, none⟩ = some (.int .i64 p.slip) := (hg' 3).trans d3
        have z4 : wB.cell? ⟨tb, 1, none⟩ = some (.int .i64 (k + 1)) := hB2.cell 1
        have hB2 := hid hB2
        have hS2 := hid hS2
        clear hg' d1 d3 df
        go_quiet (fail)
        go_wp2_with fail
        go_ret
        exact hend.out _ _ _ (Shy.trans hS2.out (shy_drewN (U := fun j => j = tb) _ _) fun _ _ h => h) (hB2.out.drewN _) HB.out.symm HK.out.symm _ (by rw [hcode.out]; rfl) (by omega) (by omega)
      · have hcode := hid (show codeS p (k + 1) = 2 by unfold codeS; rw [if_neg (by omega), if_neg (fun h => hC h.2)])
        have y3 : ((((k + 1) - p.limit) % p.slip) == 0) = false := by simpa using hC
        clear hC
        go_quiet (fail)
        go_wp2_with fail
        refine (hov.out _).mono ?_
        rintro e _ ⟨rfl, nq2, rfl⟩
        go_wp2_with fail
        have hB2 : Blk ((wA.drewN (nq + nq2)).setCell ⟨tb, 1, none⟩ (.int .i64 (k + 1))) tb 50 #[.int .i64 (b), .int .i64 (k + 1)] := (KT.out.drewN (nq + nq2)).set_ 1 (.int .i64 (k + 1))
        have hS2 : Shy (fun j => j = tb) wA ((wA.drewN (nq + nq2)).setCell ⟨tb, 1, none⟩ (.int .i64 (k + 1))) := Shy.trans (shy_drewN (U := fun j => j = tb) _ _) (set_shy tb 1 _ _) fun _ _ h => h
        generalize ((wA.drewN (nq + nq2)).setCell ⟨tb, 1, none⟩ (.int .i64 (k + 1))) = wB at hB2 hS2 ⊢
        clear d0 d1 d2 d3 d4 d5 d6 df t0 t1 tf e0 e1 ef hlk
        obtain ⟨_, d1, _, d3, _, _, _, df⟩ := hlim.out
        have hg' : ∀ i, wB.cell? ⟨g, i, none⟩ = wA.cell? ⟨g, i, none⟩ := fun i => World.cell?_of_block (hS2.block g (hlt.out g (.inl rfl)) hgt)
        have z1 : wB.cell? ⟨g, 1, none⟩ = some (.int .i64 p.limit) := (hg' 1).trans d1
        have z3 : wB.cell? ⟨g, 3, none⟩ = some (.int .i64 p.slip) := (hg' 3).trans d3
        have z4 : wB.cell? ⟨tb, 1, none⟩ = some (.int .i64 (k + 1)) := hB2.cell 1
        have hB2 := hid hB2
        have hS2 := hid hS2
        clear hg' d1 d3 df
        go_quiet (fail)
        go_wp2_with fail
        go_ret
        exact hend.out _ _ _ (Shy.trans hS2.out (shy_drewN (U := fun j => j = tb) _ _) fun _ _ h => h) (hB2.out.drewN _) HB.out.symm HK.out.symm _ (by rw [hcode.out]; rfl) (by omega) (by omega)
set_option maxHeartbeats 4000000 in
set_option maxRecDepth 100000 in
theorem judge_found_n {w : World} {g mb : Nat} {A : Option Addr} {cc : Nat} {p : Par} {now : Int} {P1 P2 : List Row} (r : Row) (t : Int) (h : LimB w g mb A cc p now (P1 ++ r :: P2)) (ht : 0 ≤ t ∧ t ≤ 1099511627776) (hle : t ≤ now) :
    Calls Try.prog 9 #[.pointer (some ⟨g, 0, none⟩), .int .i64 r.1.c, .string r.1.n, .int .i64 t] w fun e w' => JudgeF w w' e g mb A cc p now P1 P2 r := by
  obtain ⟨⟨c, n, b, k⟩, tb⟩ := r
  obtain ⟨hp1, hp2, hp3, hp4, hp5, hp6, hp7, hp8⟩ := h.2.2.2.2.1
  have hn0 := h.2.2.2.2.2.1
  have hn1 := h.2.2.2.2.2.2.1
  have hr := h.2.2.2.2.2.2.2.2.1 (⟨c, n, b, k⟩, tb) (by simp)
  obtain ⟨⟨hrc, hrn⟩, hb0, hb1, hk0, hk1⟩ := hr
  obtain ⟨c0, _, _, _, c4, _, _, cf⟩ := h.cells
  obtain ⟨ht0, ht1⟩ := ht
  have L1 := h.now' now ⟨by omega, by omega⟩
  have s1 := set_shy g 4 (.int .i64 now) w
  have q1 : (p.most == 0) = false := by simp; omega
  have L2 := L1.ext (ext_alloc _ (.cells #[.int .i64 c, .string n] 46))
  have s2 := s1.ext (ext_alloc _ (.cells #[.int .i64 c, .string n] 46))
  have KB := Blk.new (w.setCell ⟨g, 4, none⟩ (.int .i64 now)) 46 #[.int .i64 c, .string n]
  rw [show (w.setCell ⟨g, 4, none⟩ (.int .i64 now)).heap.size = w.heap.size from by simp [World.setCell]] at KB
  have hkb : wfK c n := ⟨hrc, hrn⟩
  clear h L1 s1
  simp only at hb0 hb1 hk0 hk1 hrn hrc
  have q2 : decide ((255 : Int) < (n.size : Int)) = false := by simp; omega
  have q3 : decide (t < 0) = false := by simp; omega
  have q4 : decide ((1099511627776 : Int) < t) = false := by simp; omega
  have hmx : max now t = now := by omega
  go_enter Try.func9, Try.ntmps9
  go_wp2_with fail
  generalize (w.setCell ⟨g, 4, none⟩ (.int .i64 now)).alloc (.cells #[.int .i64 c, .string n] 46) = wA at L2 s2 KB ⊢
  have hlk : ∀ nq, (Instr.lookup 24 (.map (some mb)) (.agg #[.int .i64 c, .string n]) true).run Try.prog (wA.drewN nq) = .ok (.tuple #[.pointer (some ⟨tb, 0, none⟩), .bool true]) (wA.drewN nq) := by
    intro nq
    have hl := (L2.2.1.ext (ext_drewN wA nq)).look (t := 24) keyed Try.underlying24 (zero_ptr _) (kl_key hkb) true
    rw [tab_at (r := (⟨c, n, b, k⟩, tb)) L2.2.2.2.2.2.2.2.2.1 L2.2.2.2.2.2.2.2.2.2.1] at hl
    exact hl
  clear c0 c4 cf
  obtain ⟨d0, d1, d2, d3, d4, d5, d6, df⟩ := L2.cells
  have KT := L2.2.2.2.1 (⟨c, n, b, k⟩, tb) (by simp)
  obtain ⟨t0, t1, tf⟩ := KT.two
  obtain ⟨e0, e1, ef⟩ := KB.two
  have hov : ∀ nq, Calls Try.prog 16 #[.pointer (some ⟨g, 0, none⟩), .pointer (some ⟨tb, 0, none⟩)] (wA.drewN nq) fun e w' => e = .returned (.bool (overB p now b)) ∧ ∃ n, w' = (wA.drewN nq).drewN n :=
    fun nq => over_any (L2.ext (ext_drewN wA nq)) (KT.ext (ext_drewN wA nq)) ⟨hb0, hb1⟩
  have hov := hid hov
  have L2 := hid L2
  have KT := hid KT
  have s2 := hid s2
  have hgt : g ≠ tb := L2.out.gr (r := (⟨c, n, b, k⟩, tb)) (by simp)
  have hgt' : tb ≠ g := Ne.symm hgt
  clear KB hmx
  have hend : ∀ (W : World) (b' k' : Int), Shy (fun j => j = tb) wA W → Blk W tb 50 #[.int .i64 b', .int .i64 k'] → b' = bumpB p now b → k' = bumpK p now b k → ∀ e, e = .returned (.int .i64 (codeS p k')) → 0 ≤ b' ∧ b' ≤ 1099511627776 → 0 ≤ k' ∧ k' ≤ 1073741824 → JudgeF w W e g mb A cc p now P1 P2 (⟨c, n, b, k⟩, tb) := by
    intro W b' k' hs hb hb' hk' e he h1 h2
    refine ⟨by rw [he, hk'], ?_, Shy.trans (s2.out.mono fun _ _ h => .inl h) hs fun _ _ h => .inr h⟩
    have := L2.out.turn b' k' h1 h2 hs hb
    rw [hb', hk'] at this
    exact this
  have hend := hid hend
  have hlim := hid L2.out.cells
  have hlt := hid L2.out.lt
  by_cases hO : overB p now b = true
  · have HB := hid (show bumpB p now b = now by unfold bumpB; rw [if_pos hO])
    have HK := hid (show bumpK p now b k = 1 by unfold bumpK; rw [if_pos hO])
    rw [hO] at hov
    clear hO
    rcases (show (1) - p.limit ≤ 0 ∨ (0 < (1) - p.limit ∧ p.slip = 0) ∨ (0 < (1) - p.limit ∧ 0 < p.slip ∧ ((1) - p.limit) % p.slip = 0) ∨ (0 < (1) - p.limit ∧ 0 < p.slip ∧ ¬ ((1) - p.limit) % p.slip = 0) by omega) with hA | ⟨hA, hB⟩ | ⟨hA, hB, hC⟩ | ⟨hA, hB, hC⟩
    · have hcode := hid (show codeS p (1) = 0 by unfold codeS; rw [if_pos hA])
      have y1 : decide (0 < (1) - p.limit) = false := by simp; omega
      go_quiet (fail)
      go_wp2_with fail
      refine (hov.out _).mono ?_
      rintro e _ ⟨rfl, nq2, rfl⟩
      go_wp2_with fail
      have hB2 : Blk ((((wA.drewN (nq + nq2)).setCell ⟨tb, 0, none⟩ (.int .i64 now)).setCell ⟨tb, 1, none⟩ (.int .i64 0)).setCell ⟨tb, 1, none⟩ (.int .i64 1)) tb 50 #[.int .i64 (now), .int .i64 (1)] := (((KT.out.drewN (nq + nq2)).set_ 0 (.int .i64 now)).set_ 1 (.int .i64 0)).set_ 1 (.int .i64 1)
      have hS2 : Shy (fun j => j = tb) wA ((((wA.drewN (nq + nq2)).setCell ⟨tb, 0, none⟩ (.int .i64 now)).setCell ⟨tb, 1, none⟩ (.int .i64 0)).setCell ⟨tb, 1, none⟩ (.int .i64 1)) := Shy.trans (Shy.trans (Shy.trans (shy_drewN (U := fun j => j = tb) _ _) (set_shy tb 0 _ _) fun _ _ h => h) (set_shy tb 1 _ _) fun _ _ h => h) (set_shy tb 1 _ _) fun _ _ h => h
      generalize ((((wA.drewN (nq + nq2)).setCell ⟨tb, 0, none⟩ (.int .i64 now)).setCell ⟨tb, 1, none⟩ (.int .i64 0)).setCell ⟨tb, 1, none⟩ (.int .i64 1)) = wB at hB2 hS2 ⊢
      clear d0 d1 d2 d3 d4 d5 d6 df t0 t1 tf e0 e1 ef hlk
      obtain ⟨_, d1, _, d3, _, _, _, df⟩ := hlim.out
      have hg' : ∀ i, wB.cell? ⟨g, i, none⟩ = wA.cell? ⟨g, i, none⟩ := fun i => World.cell?_of_block (hS2.block g (hlt.out g (.inl rfl)) hgt)
      have z1 : wB.cell? ⟨g, 1, none⟩ = some (.int .i64 p.limit) := (hg' 1).trans d1
      have z3 : wB.cell? ⟨g, 3, none⟩ = some (.int .i64 p.slip) := (hg' 3).trans d3
      have z4 : wB.cell? ⟨tb, 1, none⟩ = some (.int .i64 (1)) := hB2.cell 1
      have hB2 := hid hB2
      have hS2 := hid hS2
      clear hg' d1 d3 df
      go_quiet (fail)
      go_wp2_with fail
      go_ret
      exact hend.out _ _ _ (Shy.trans hS2.out (shy_drewN (U := fun j => j = tb) _ _) fun _ _ h => h) (hB2.out.drewN _) HB.out.symm HK.out.symm _ (by rw [hcode.out]; rfl) (by omega) (by omega)
    · have hcode := hid (show codeS p (1) = 2 by unfold codeS; rw [if_neg (by omega), if_neg (by omega)])
      go_quiet (fail)
      go_wp2_with fail
      refine (hov.out _).mono ?_
      rintro e _ ⟨rfl, nq2, rfl⟩
      go_wp2_with fail
      have hB2 : Blk ((((wA.drewN (nq + nq2)).setCell ⟨tb, 0, none⟩ (.int .i64 now)).setCell ⟨tb, 1, none⟩ (.int .i64 0)).setCell ⟨tb, 1, none⟩ (.int .i64 1)) tb 50 #[.int .i64 (now), .int .i64 (1)] := (((KT.out.drewN (nq + nq2)).set_ 0 (.int .i64 now)).set_ 1 (.int .i64 0)).set_ 1 (.int .i64 1)
      have hS2 : Shy (fun j => j = tb) wA ((((wA.drewN (nq + nq2)).setCell ⟨tb, 0, none⟩ (.int .i64 now)).setCell ⟨tb, 1, none⟩ (.int .i64 0)).setCell ⟨tb, 1, none⟩ (.int .i64 1)) := Shy.trans (Shy.trans (Shy.trans (shy_drewN (U := fun j => j = tb) _ _) (set_shy tb 0 _ _) fun _ _ h => h) (set_shy tb 1 _ _) fun _ _ h => h) (set_shy tb 1 _ _) fun _ _ h => h
      generalize ((((wA.drewN (nq + nq2)).setCell ⟨tb, 0, none⟩ (.int .i64 now)).setCell ⟨tb, 1, none⟩ (.int .i64 0)).setCell ⟨tb, 1, none⟩ (.int .i64 1)) = wB at hB2 hS2 ⊢
      clear d0 d1 d2 d3 d4 d5 d6 df t0 t1 tf e0 e1 ef hlk
      obtain ⟨_, d1, _, d3, _, _, _, df⟩ := hlim.out
      have hg' : ∀ i, wB.cell? ⟨g, i, none⟩ = wA.cell? ⟨g, i, none⟩ := fun i => World.cell?_of_block (hS2.block g (hlt.out g (.inl rfl)) hgt)
      have z1 : wB.cell? ⟨g, 1, none⟩ = some (.int .i64 p.limit) := (hg' 1).trans d1
      have z3 : wB.cell? ⟨g, 3, none⟩ = some (.int .i64 p.slip) := (hg' 3).trans d3
      have z4 : wB.cell? ⟨tb, 1, none⟩ = some (.int .i64 (1)) := hB2.cell 1
      have hB2 := hid hB2
      have hS2 := hid hS2
      clear hg' d1 d3 df
      go_quiet (fail)
      go_wp2_with fail
      go_ret
      exact hend.out _ _ _ (Shy.trans hS2.out (shy_drewN (U := fun j => j = tb) _ _) fun _ _ h => h) (hB2.out.drewN _) HB.out.symm HK.out.symm _ (by rw [hcode.out]; rfl) (by omega) (by omega)
    · have hcode := hid (show codeS p (1) = 1 by unfold codeS; rw [if_neg (by omega), if_pos ⟨hB, hC⟩])
      have y3 : ((((1) - p.limit) % p.slip) == 0) = true := by simpa using hC
      clear hC
      go_quiet (fail)
      go_wp2_with fail
      refine (hov.out _).mono ?_
      rintro e _ ⟨rfl, nq2, rfl⟩
      go_wp2_with fail
      have hB2 : Blk ((((wA.drewN (nq + nq2)).setCell ⟨tb, 0, none⟩ (.int .i64 now)).setCell ⟨tb, 1, none⟩ (.int .i64 0)).setCell ⟨tb, 1, none⟩ (.int .i64 1)) tb 50 #[.int .i64 (now), .int .i64 (1)] := (((KT.out.drewN (nq + nq2)).set_ 0 (.int .i64 now)).set_ 1 (.int .i64 0)).set_ 1 (.int .i64 1)
      have hS2 : Shy (fun j => j = tb) wA ((((wA.drewN (nq + nq2)).setCell ⟨tb, 0, none⟩ (.int .i64 now)).setCell ⟨tb, 1, none⟩ (.int .i64 0)).setCell ⟨tb, 1, none⟩ (.int .i64 1)) := Shy.trans (Shy.trans (Shy.trans (shy_drewN (U := fun j => j = tb) _ _) (set_shy tb 0 _ _) fun _ _ h => h) (set_shy tb 1 _ _) fun _ _ h => h) (set_shy tb 1 _ _) fun _ _ h => h
      generalize ((((wA.drewN (nq + nq2)).setCell ⟨tb, 0, none⟩ (.int .i64 now)).setCell ⟨tb, 1, none⟩ (.int .i64 0)).setCell ⟨tb, 1, none⟩ (.int .i64 1)) = wB at hB2 hS2 ⊢
      clear d0 d1 d2 d3 d4 d5 d6 df t0 t1 tf e0 e1 ef hlk
      obtain ⟨_, d1, _, d3, _, _, _, df⟩ := hlim.out
      have hg' : ∀ i, wB.cell? ⟨g, i, none⟩ = wA.cell? ⟨g, i, none⟩ := fun i => World.cell?_of_block (hS2.block g (hlt.out g (.inl rfl)) hgt)
      have z1 : wB.cell? ⟨g, 1, none⟩ = some (.int .i64 p.limit) := (hg' 1).trans d1
      have z3 : wB.cell? ⟨g, 3, none⟩ = some (.int .i64 p.slip) := (hg' 3).trans d3
      have z4 : wB.cell? ⟨tb, 1, none⟩ = some (.int .i64 (1)) := hB2.cell 1
      have hB2 := hid hB2
      have hS2 := hid hS2
      clear hg' d1 d3 df
      go_quiet (fail)
      go_wp2_with fail
      go_ret
      exact hend.out _ _ _ (Shy.trans hS2.out (shy_drewN (U := fun j => j = tb) _ _) fun _ _ h => h) (hB2.out.drewN _) HB.out.symm HK.out.symm _ (by rw [hcode.out]; rfl) (by omega) (by omega)
    · have hcode := hid (show codeS p (1) = 2 by unfold codeS; rw [if_neg (by omega), if_neg (fun h => hC h.2)])
      have y3 : ((((1) - p.limit) % p.slip) == 0) = false := by simpa using hC
      clear hC
      go_quiet (fail)
      go_wp2_with fail
      refine (hov.out _).mono ?_
      rintro e _ ⟨rfl, nq2, rfl⟩
      go_wp2_with fail
      have hB2 : Blk ((((wA.drewN (nq + nq2)).setCell ⟨tb, 0, none⟩ (.int .i64 now)).setCell ⟨tb, 1, none⟩ (.int .i64 0)).setCell ⟨tb, 1, none⟩ (.int .i64 1)) tb 50 #[.int .i64 (now), .int .i64 (1)] := (((KT.out.drewN (nq + nq2)).set_ 0 (.int .i64 now)).set_ 1 (.int .i64 0)).set_ 1 (.int .i64 1)
      have hS2 : Shy (fun j => j = tb) wA ((((wA.drewN (nq + nq2)).setCell ⟨tb, 0, none⟩ (.int .i64 now)).setCell ⟨tb, 1, none⟩ (.int .i64 0)).setCell ⟨tb, 1, none⟩ (.int .i64 1)) := Shy.trans (Shy.trans (Shy.trans (shy_drewN (U := fun j => j = tb) _ _) (set_shy tb 0 _ _) fun _ _ h => h) (set_shy tb 1 _ _) fun _ _ h => h) (set_shy tb 1 _ _) fun _ _ h => h
      generalize ((((wA.drewN (nq + nq2)).setCell ⟨tb, 0, none⟩ (.int .i64 now)).setCell ⟨tb, 1, none⟩ (.int .i64 0)).setCell ⟨tb, 1, none⟩ (.int .i64 1)) = wB at hB2 hS2 ⊢
      clear d0 d1 d2 d3 d4 d5 d6 df t0 t1 tf e0 e1 ef hlk
      obtain ⟨_, d1, _, d3, _, _, _, df⟩ := hlim.out
      have hg' : ∀ i, wB.cell? ⟨g, i, none⟩ = wA.cell? ⟨g, i, none⟩ := fun i => World.cell?_of_block (hS2.block g (hlt.out g (.inl rfl)) hgt)
      have z1 : wB.cell? ⟨g, 1, none⟩ = some (.int .i64 p.limit) := (hg' 1).trans d1
      have z3 : wB.cell? ⟨g, 3, none⟩ = some (.int .i64 p.slip) := (hg' 3).trans d3
      have z4 : wB.cell? ⟨tb, 1, none⟩ = some (.int .i64 (1)) := hB2.cell 1
      have hB2 := hid hB2
      have hS2 := hid hS2
      clear hg' d1 d3 df
      go_quiet (fail)
      go_wp2_with fail
      go_ret
      exact hend.out _ _ _ (Shy.trans hS2.out (shy_drewN (U := fun j => j = tb) _ _) fun _ _ h => h) (hB2.out.drewN _) HB.out.symm HK.out.symm _ (by rw [hcode.out]; rfl) (by omega) (by omega)
  · have HB := hid (show bumpB p now b = b by unfold bumpB; rw [if_neg hO])
    have HK := hid (show bumpK p now b k = min (k + 1) 1073741824 by unfold bumpK; rw [if_neg hO])
    have hO' : overB p now b = false := by simpa using hO
    rw [hO'] at hov
    clear hO hO'
    rcases (show k = 1073741824 ∨ k < 1073741824 by omega) with hk | hk
    · subst hk
      have HK := hid (show bumpK p now b 1073741824 = 1073741824 by rw [HK.out]; decide)
      rcases (show (1073741824) - p.limit ≤ 0 ∨ (0 < (1073741824) - p.limit ∧ p.slip = 0) ∨ (0 < (1073741824) - p.limit ∧ 0 < p.slip ∧ ((1073741824) - p.limit) % p.slip = 0) ∨ (0 < (1073741824) - p.limit ∧ 0 < p.slip ∧ ¬ ((1073741824) - p.limit) % p.slip = 0) by omega) with hA | ⟨hA, hB⟩ | ⟨hA, hB, hC⟩ | ⟨hA, hB, hC⟩
      · have hcode := hid (show codeS p (1073741824) = 0 by unfold codeS; rw [if_pos hA])
        have y1 : decide (0 < (1073741824) - p.limit) = false := by simp; omega
        go_quiet (fail)
        go_wp2_with fail
        refine (hov.out _).mono ?_
        rintro e _ ⟨rfl, nq2, rfl⟩
        go_wp2_with fail
        have hB2 : Blk ((wA.drewN (nq + nq2)).setCell ⟨tb, 1, none⟩ (.int .i64 (1073741824))) tb 50 #[.int .i64 (b), .int .i64 (1073741824)] := (KT.out.drewN (nq + nq2)).set_ 1 (.int .i64 (1073741824))
        have hS2 : Shy (fun j => j = tb) wA ((wA.drewN (nq + nq2)).setCell ⟨tb, 1, none⟩ (.int .i64 (1073741824))) := Shy.trans (shy_drewN (U := fun j => j = tb) _ _) (set_shy tb 1 _ _) fun _ _ h => h
        generalize ((wA.drewN (nq + nq2)).setCell ⟨tb, 1, none⟩ (.int .i64 (1073741824))) = wB at hB2 hS2 ⊢
        clear d0 d1 d2 d3 d4 d5 d6 df t0 t1 tf e0 e1 ef hlk
        obtain ⟨_, d1, _, d3, _, _, _, df⟩ := hlim.out
        have hg' : ∀ i, wB.cell? ⟨g, i, none⟩ = wA.cell? ⟨g, i, none⟩ := fun i => World.cell?_of_block (hS2.block g (hlt.out g (.inl rfl)) hgt)
        have z1 : wB.cell? ⟨g, 1, none⟩ = some (.int .i64 p.limit) := (hg' 1).trans d1
        have z3 : wB.cell? ⟨g, 3, none⟩ = some (.int .i64 p.slip) := (hg' 3).trans d3
        have z4 : wB.cell? ⟨tb, 1, none⟩ = some (.int .i64 (1073741824)) := hB2.cell 1
        have hB2 := hid hB2
        have hS2 := hid hS2
        clear hg' d1 d3 df
        go_quiet (fail)
        go_wp2_with fail
        go_ret
        exact hend.out _ _ _ (Shy.trans hS2.out (shy_drewN (U := fun j => j = tb) _ _) fun _ _ h => h) (hB2.out.drewN _) HB.out.symm HK.out.symm _ (by rw [hcode.out]; rfl) (by omega) (by omega)
      · have hcode := hid (show codeS p (1073741824) = 2 by unfold codeS; rw [if_neg (by omega), if_neg (by omega)])
        go_quiet (fail)
        go_wp2_with fail
        refine (hov.out _).mono ?_
        rintro e _ ⟨rfl, nq2, rfl⟩
        go_wp2_with fail
        have hB2 : Blk ((wA.drewN (nq + nq2)).setCell ⟨tb, 1, none⟩ (.int .i64 (1073741824))) tb 50 #[.int .i64 (b), .int .i64 (1073741824)] := (KT.out.drewN (nq + nq2)).set_ 1 (.int .i64 (1073741824))
        have hS2 : Shy (fun j => j = tb) wA ((wA.drewN (nq + nq2)).setCell ⟨tb, 1, none⟩ (.int .i64 (1073741824))) := Shy.trans (shy_drewN (U := fun j => j = tb) _ _) (set_shy tb 1 _ _) fun _ _ h => h
        generalize ((wA.drewN (nq + nq2)).setCell ⟨tb, 1, none⟩ (.int .i64 (1073741824))) = wB at hB2 hS2 ⊢
        clear d0 d1 d2 d3 d4 d5 d6 df t0 t1 tf e0 e1 ef hlk
        obtain ⟨_, d1, _, d3, _, _, _, df⟩ := hlim.out
        have hg' : ∀ i, wB.cell? ⟨g, i, none⟩ = wA.cell? ⟨g, i, none⟩ := fun i => World.cell?_of_block (hS2.block g (hlt.out g (.inl rfl)) hgt)
        have z1 : wB.cell? ⟨g, 1, none⟩ = some (.int .i64 p.limit) := (hg' 1).trans d1
        have z3 : wB.cell? ⟨g, 3, none⟩ = some (.int .i64 p.slip) := (hg' 3).trans d3
        have z4 : wB.cell? ⟨tb, 1, none⟩ = some (.int .i64 (1073741824)) := hB2.cell 1
        have hB2 := hid hB2
        have hS2 := hid hS2
        clear hg' d1 d3 df
        go_quiet (fail)
        go_wp2_with fail
        go_ret
        exact hend.out _ _ _ (Shy.trans hS2.out (shy_drewN (U := fun j => j = tb) _ _) fun _ _ h => h) (hB2.out.drewN _) HB.out.symm HK.out.symm _ (by rw [hcode.out]; rfl) (by omega) (by omega)
      · have hcode := hid (show codeS p (1073741824) = 1 by unfold codeS; rw [if_neg (by omega), if_pos ⟨hB, hC⟩])
        have y3 : ((((1073741824) - p.limit) % p.slip) == 0) = true := by simpa using hC
        clear hC
        go_quiet (fail)
        go_wp2_with fail
        refine (hov.out _).mono ?_
        rintro e _ ⟨rfl, nq2, rfl⟩
        go_wp2_with fail
        have hB2 : Blk ((wA.drewN (nq + nq2)).setCell ⟨tb, 1, none⟩ (.int .i64 (1073741824))) tb 50 #[.int .i64 (b), .int .i64 (1073741824)] := (KT.out.drewN (nq + nq2)).set_ 1 (.int .i64 (1073741824))
        have hS2 : Shy (fun j => j = tb) wA ((wA.drewN (nq + nq2)).setCell ⟨tb, 1, none⟩ (.int .i64 (1073741824))) := Shy.trans (shy_drewN (U := fun j => j = tb) _ _) (set_shy tb 1 _ _) fun _ _ h => h
        generalize ((wA.drewN (nq + nq2)).setCell ⟨tb, 1, none⟩ (.int .i64 (1073741824))) = wB at hB2 hS2 ⊢
        clear d0 d1 d2 d3 d4 d5 d6 df t0 t1 tf e0 e1 ef hlk
        obtain ⟨_, d1, _, d3, _, _, _, df⟩ := hlim.out
        have hg' : ∀ i, wB.cell? ⟨g, i, none⟩ = wA.cell? ⟨g, i, none⟩ := fun i => World.cell?_of_block (hS2.block g (hlt.out g (.inl rfl)) hgt)
        have z1 : wB.cell? ⟨g, 1, none⟩ = some (.int .i64 p.limit) := (hg' 1).trans d1
        have z3 : wB.cell? ⟨g, 3, none⟩ = some (.int .i64 p.slip) := (hg' 3).trans d3
        have z4 : wB.cell? ⟨tb, 1, none⟩ = some (.int .i64 (1073741824)) := hB2.cell 1
        have hB2 := hid hB2
        have hS2 := hid hS2
        clear hg' d1 d3 df
        go_quiet (fail)
        go_wp2_with fail
        go_ret
        exact hend.out _ _ _ (Shy.trans hS2.out (shy_drewN (U := fun j => j = tb) _ _) fun _ _ h => h) (hB2.out.drewN _) HB.out.symm HK.out.symm _ (by rw [hcode.out]; rfl) (by omega) (by omega)
      · have hcode := hid (show codeS p (1073741824) = 2 by unfold codeS; rw [if_neg (by omega), if_neg (fun h => hC h.2)])
        have y3 : ((((1073741824) - p.limit) % p.slip) == 0) = false := by simpa using hC
        clear hC
        go_quiet (fail)
        go_wp2_with fail
        refine (hov.out _).mono ?_
        rintro e _ ⟨rfl, nq2, rfl⟩
        go_wp2_with fail
        have hB2 : Blk ((wA.drewN (nq + nq2)).setCell ⟨tb, 1, none⟩ (.int .i64 (1073741824))) tb 50 #[.int .i64 (b), .int .i64 (1073741824)] := (KT.out.drewN (nq + nq2)).set_ 1 (.int .i64 (1073741824))
        have hS2 : Shy (fun j => j = tb) wA ((wA.drewN (nq + nq2)).setCell ⟨tb, 1, none⟩ (.int .i64 (1073741824))) := Shy.trans (shy_drewN (U := fun j => j = tb) _ _) (set_shy tb 1 _ _) fun _ _ h => h
        generalize ((wA.drewN (nq + nq2)).setCell ⟨tb, 1, none⟩ (.int .i64 (1073741824))) = wB at hB2 hS2 ⊢
        clear d0 d1 d2 d3 d4 d5 d6 df t0 t1 tf e0 e1 ef hlk
        obtain ⟨_, d1, _, d3, _, _, _, df⟩ := hlim.out
        have hg' : ∀ i, wB.cell? ⟨g, i, none⟩ = wA.cell? ⟨g, i, none⟩ := fun i => World.cell?_of_block (hS2.block g (hlt.out g (.inl rfl)) hgt)
        have z1 : wB.cell? ⟨g, 1, none⟩ = some (.int .i64 p.limit) := (hg' 1).trans d1
        have z3 : wB.cell? ⟨g, 3, none⟩ = some (.int .i64 p.slip) := (hg' 3).trans d3
        have z4 : wB.cell? ⟨tb, 1, none⟩ = some (.int .i64 (1073741824)) := hB2.cell 1
        have hB2 := hid hB2
        have hS2 := hid hS2
        clear hg' d1 d3 df
        go_quiet (fail)
        go_wp2_with fail
        go_ret
        exact hend.out _ _ _ (Shy.trans hS2.out (shy_drewN (U := fun j => j = tb) _ _) fun _ _ h => h) (hB2.out.drewN _) HB.out.symm HK.out.symm _ (by rw [hcode.out]; rfl) (by omega) (by omega)
    · have HK := hid (show bumpK p now b k = k + 1 by rw [HK.out]; omega)
      rcases (show (k + 1) - p.limit ≤ 0 ∨ (0 < (k + 1) - p.limit ∧ p.slip = 0) ∨ (0 < (k + 1) - p.limit ∧ 0 < p.slip ∧ ((k + 1) - p.limit) % p.slip = 0) ∨ (0 < (k + 1) - p.limit ∧ 0 < p.slip ∧ ¬ ((k + 1) - p.limit) % p.slip = 0) by omega) with hA | ⟨hA, hB⟩ | ⟨hA, hB, hC⟩ | ⟨hA, hB, hC⟩
      · have hcode := hid (show codeS p (k + 1) = 0 by unfold codeS; rw [if_pos hA])
        have y1 : decide (0 < (k + 1) - p.limit) = false := by simp; omega
        go_quiet (fail)
        go_wp2_with fail
        refine (hov.out _).mono ?_
        rintro e _ ⟨rfl, nq2, rfl⟩
        go_wp2_with fail
        have hB2 : Blk ((wA.drewN (nq + nq2)).setCell ⟨tb, 1, none⟩ (.int .i64 (k + 1))) tb 50 #[.int .i64 (b), .int .i64 (k + 1)] := (KT.out.drewN (nq + nq2)).set_ 1 (.int .i64 (k + 1))
        have hS2 : Shy (fun j => j = tb) wA ((wA.drewN (nq + nq2)).setCell ⟨tb, 1, none⟩ (.int .i64 (k + 1))) := Shy.trans (shy_drewN (U := fun j => j = tb) _ _) (set_shy tb 1 _ _) fun _ _ h => h
        generalize ((wA.drewN (nq + nq2)).setCell ⟨tb, 1, none⟩ (.int .i64 (k + 1))) = wB at hB2 hS2 ⊢
        clear d0 d1 d2 d3 d4 d5 d6 df t0 t1 tf e0 e1 ef hlk
        obtain ⟨_, d1, _, d3, _, _, _, df⟩ := hlim.out
        have hg' : ∀ i, wB.cell? ⟨g, i, none⟩ = wA.cell? ⟨g, i, none⟩ := fun i => World.cell?_of_block (hS2.block g (hlt.out g (.inl rfl)) hgt)
        have z1 : wB.cell? ⟨g, 1, none⟩ = some (.int .i64 p.limit) := (hg' 1).trans d1
        have z3 : wB.cell? ⟨g, 3, none⟩ = some (.int .i64 p.slip) := (hg' 3).trans d3
        have z4 : wB.cell? ⟨tb, 1, none⟩ = some (.int .i64 (k + 1)) := hB2.cell 1
        have hB2 := hid hB2
        have hS2 := hid hS2
        clear hg' d1 d3 df
        go_quiet (fail)
        go_wp2_with fail
        go_ret
        exact hend.out _ _ _ (Shy.trans hS2.out (shy_drewN (U := fun j => j = tb) _ _) fun _ _ h => h) (hB2.out.drewN _) HB.out.symm HK.out.symm _ (by rw [hcode.out]; rfl) (by omega) (by omega)
      · have hcode := hid (show codeS p (k + 1) = 2 by unfold codeS; rw [if_neg (by omega), if_neg (by omega)])
        go_quiet (fail)
        go_wp2_with fail
        refine (hov.out _).mono ?_
        rintro e _ ⟨rfl, nq2, rfl⟩
        go_wp2_with fail
        have hB2 : Blk ((wA.drewN (nq + nq2)).setCell ⟨tb, 1, none⟩ (.int .i64 (k + 1))) tb 50 #[.int .i64 (b), .int .i64 (k + 1)] := (KT.out.drewN (nq + nq2)).set_ 1 (.int .i64 (k + 1))
        have hS2 : Shy (fun j => j = tb) wA ((wA.drewN (nq + nq2)).setCell ⟨tb, 1, none⟩ (.int .i64 (k + 1))) := Shy.trans (shy_drewN (U := fun j => j = tb) _ _) (set_shy tb 1 _ _) fun _ _ h => h
        generalize ((wA.drewN (nq + nq2)).setCell ⟨tb, 1, none⟩ (.int .i64 (k + 1))) = wB at hB2 hS2 ⊢
        clear d0 d1 d2 d3 d4 d5 d6 df t0 t1 tf e0 e1 ef hlk
        obtain ⟨_, d1, _, d3, _, _, _, df⟩ := hlim.out
        have hg' : ∀ i, wB.cell? ⟨g, i, none⟩ = wA.cell? ⟨g, i, none⟩ := fun i => World.cell?_of_block (hS2.block g (hlt.out g (.inl rfl)) hgt)
        have z1 : wB.cell? ⟨g, 1, none⟩ = some (.int .i64 p.limit) := (hg' 1).trans d1
        have z3 : wB.cell? ⟨g, 3, none⟩ = some (.int .i64 p.slip) := (hg' 3).trans d3
        have z4 : wB.cell? ⟨tb, 1, none⟩ = some (.int .i64 (k + 1)) := hB2.cell 1
        have hB2 := hid hB2
        have hS2 := hid hS2
        clear hg' d1 d3 df
        go_quiet (fail)
        go_wp2_with fail
        go_ret
        exact hend.out _ _ _ (Shy.trans hS2.out (shy_drewN (U := fun j => j = tb) _ _) fun _ _ h => h) (hB2.out.drewN _) HB.out.symm HK.out.symm _ (by rw [hcode.out]; rfl) (by omega) (by omega)
      · have hcode := hid (show codeS p (k + 1) = 1 by unfold codeS; rw [if_neg (by omega), if_pos ⟨hB, hC⟩])
        have y3 : ((((k + 1) - p.limit) % p.slip) == 0) = true := by simpa using hC
        clear hC
        go_quiet (fail)
        go_wp2_with fail
        refine (hov.out _).mono ?_
        rintro e _ ⟨rfl, nq2, rfl⟩
        go_wp2_with fail
        have hB2 : Blk ((wA.drewN (nq + nq2)).setCell ⟨tb, 1, none⟩ (.int .i64 (k + 1))) tb 50 #[.int .i64 (b), .int .i64 (k + 1)] := (KT.out.drewN (nq + nq2)).set_ 1 (.int .i64 (k + 1))
        have hS2 : Shy (fun j => j = tb) wA ((wA.drewN (nq + nq2)).setCell ⟨tb, 1, none⟩ (.int .i64 (k + 1))) := Shy.trans (shy_drewN (U := fun j => j = tb) _ _) (set_shy tb 1 _ _) fun _ _ h => h
        generalize ((wA.drewN (nq + nq2)).setCell ⟨tb, 1, none⟩ (.int .i64 (k + 1))) = wB at hB2 hS2 ⊢
        clear d0 d1 d2 d3 d4 d5 d6 df t0 t1 tf e0 e1 ef hlk
        obtain ⟨_, d1, _, d3, _, _, _, df⟩ := hlim.out
        have hg' : ∀ i, wB.cell? ⟨g, i, none⟩ = wA.cell? ⟨g, i, none⟩ := fun i => World.cell?_of_block (hS2.block g (hlt.out g (.inl rfl)) hgt)
        have z1 : wB.cell? ⟨g, 1, none⟩ = some (.int .i64 p.limit) := (hg' 1).trans d1
        have z3 : wB.cell? ⟨g, 3, none⟩ = some (.int .i64 p.slip) := (hg' 3).trans d3
        have z4 : wB.cell? ⟨tb, 1, none⟩ = some (.int .i64 (k + 1)) := hB2.cell 1
        have hB2 := hid hB2
        have hS2 := hid hS2
        clear hg' d1 d3 df
        go_quiet (fail)
        go_wp2_with fail
        go_ret
        exact hend.out _ _ _ (Shy.trans hS2.out (shy_drewN (U := fun j => j = tb) _ _) fun _ _ h => h) (hB2.out.drewN _) HB.out.symm HK.out.symm _ (by rw [hcode.out]; rfl) (by omega) (by omega)
      · have hcode := hid (show codeS p (k + 1) = 2 by unfold codeS; rw [if_neg (by omega), if_neg (fun h => hC h.2)])
        have y3 : ((((k + 1) - p.limit) % p.slip) == 0) = false := by simpa using hC
        clear hC
        go_quiet (fail)
        go_wp2_with fail
        refine (hov.out _).mono ?_
        rintro e _ ⟨rfl, nq2, rfl⟩
        go_wp2_with fail
        have hB2 : Blk ((wA.drewN (nq + nq2)).setCell ⟨tb, 1, none⟩ (.int .i64 (k + 1))) tb 50 #[.int .i64 (b), .int .i64 (k + 1)] := (KT.out.drewN (nq + nq2)).set_ 1 (.int .i64 (k + 1))
        have hS2 : Shy (fun j => j = tb) wA ((wA.drewN (nq + nq2)).setCell ⟨tb, 1, none⟩ (.int .i64 (k + 1))) := Shy.trans (shy_drewN (U := fun j => j = tb) _ _) (set_shy tb 1 _ _) fun _ _ h => h
        generalize ((wA.drewN (nq + nq2)).setCell ⟨tb, 1, none⟩ (.int .i64 (k + 1))) = wB at hB2 hS2 ⊢
        clear d0 d1 d2 d3 d4 d5 d6 df t0 t1 tf e0 e1 ef hlk
        obtain ⟨_, d1, _, d3, _, _, _, df⟩ := hlim.out
        have hg' : ∀ i, wB.cell? ⟨g, i, none⟩ = wA.cell? ⟨g, i, none⟩ := fun i => World.cell?_of_block (hS2.block g (hlt.out g (.inl rfl)) hgt)
        have z1 : wB.cell? ⟨g, 1, none⟩ = some (.int .i64 p.limit) := (hg' 1).trans d1
        have z3 : wB.cell? ⟨g, 3, none⟩ = some (.int .i64 p.slip) := (hg' 3).trans d3
        have z4 : wB.cell? ⟨tb, 1, none⟩ = some (.int .i64 (k + 1)) := hB2.cell 1
        have hB2 := hid hB2
        have hS2 := hid hS2
        clear hg' d1 d3 df
        go_quiet (fail)
        go_wp2_with fail
        go_ret
        exact hend.out _ _ _ (Shy.trans hS2.out (shy_drewN (U := fun j => j = tb) _ _) fun _ _ h => h) (hB2.out.drewN _) HB.out.symm HK.out.symm _ (by rw [hcode.out]; rfl) (by omega) (by omega)
theorem judge_found {w : World} {g mb : Nat} {A : Option Addr} {cc : Nat} {p : Par} {now : Int} {P1 P2 : List Row} (r : Row) (t : Int) (h : LimB w g mb A cc p now (P1 ++ r :: P2)) (ht : 0 ≤ t ∧ t ≤ 1099511627776) :
    Calls Try.prog 9 #[.pointer (some ⟨g, 0, none⟩), .int .i64 r.1.c, .string r.1.n, .int .i64 t] w fun e w' => JudgeF w w' e g mb A cc p (max now t) P1 P2 r := by
  by_cases hle : now < t
  · rw [Int.max_eq_right (by omega)]; exact judge_found_t r t h ht hle
  · rw [Int.max_eq_left (by omega)]; exact judge_found_n r t h ht (by omega)
end Go.Proofs.Ytnoepnbgnlolbaa

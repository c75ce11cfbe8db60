/- Layer 19: Judge, of a key that is not looked after, where there is room. -/
import Derived.Test.YtnoepnbgnlolbaaRrlG
import Derived.Deep.RegionLaw
import Derived.RegionTactic
import Derived.BigRegion
namespace Go.Proofs.Ytnoepnbgnlolbaa
open Go.BK Go.RowKit Go.Maps
set_option linter.unusedVariables false
set_option linter.unusedSimpArgs false
def JudgeN (w w' : World) (e : Ending) (g mb : Nat) (A : Option Addr) (p : Par) (now : Int) (P : List Row) (c : Int) (n : ByteArray) : Prop :=
  e = .returned (.int .i64 (codeS p 1)) ∧ ∃ A' cc' tb, LimB w' g mb A' cc' p now (P ++ [(⟨c, n, now, 1⟩, tb)]) ∧ w.heap.size ≤ tb ∧ (∀ k, blk A' = some k → blk A = some k ∨ w.heap.size ≤ k) ∧ Shy (fun k => k = g ∨ k = mb ∨ blk A = some k) w w'
theorem info_key : (Try.prog.info? 46).map (fun i => (i.zero, i.size, i.bytes)) = some (some (.agg #[.int .i64 0, .string ⟨#[]⟩]), 2, 24) := by kernel_rfl
theorem rd_pair (w : World) (a b : Value) (e : TypeId) (g : Nat) (hg : g = w.heap.size) : RdG (w.alloc (.cells #[a, b] e)) 2 (some ⟨g, 0, none⟩) 1 1 [a, b] := by
  subst hg
  refine ⟨rfl, Nat.le_refl _, by simp [maxLen], fun _ => ⟨w.heap.size, 0, rfl, by simp, fun j u hj => ?_⟩⟩
  rcases j with _ | _ | j
  · simp at hj; subst hj; simp
  · simp at hj; subst hj; simp
  · simp at hj
set_option maxHeartbeats 4000000 in
set_option maxRecDepth 100000 in
theorem judge_new_t {w : World} {g mb : Nat} {A : Option Addr} {cc : Nat} {p : Par} {now : Int} {P : List Row} (c : Int) (n : ByteArray) (t : Int) (h : LimB w g mb A cc p now P) (hkb : wfK c n) (hno : ∀ r ∈ P, ¬ r.is c n) (hl : (P.length : Int) < p.most) (ht : 0 ≤ t ∧ t ≤ 1099511627776) (hle : now < t) :
    Calls Try.prog 9 #[.pointer (some ⟨g, 0, none⟩), .int .i64 c, .string n, .int .i64 t] w fun e w' => JudgeN w w' e g mb A p t P c n := by
  obtain ⟨hp1, hp2, hp3, hp4, hp5, hp6, hp7, hp8⟩ := h.2.2.2.2.1
  obtain ⟨i0, hi, hz0, hz1, hz2⟩ := info_parts info_key
  have hn0 := h.2.2.2.2.2.1
  have hn1 := h.2.2.2.2.2.2.1
  obtain ⟨hrc, hrn⟩ := id hkb
  obtain ⟨c0, _, _, _, c4, _, _, cf⟩ := h.cells
  obtain ⟨ht0, ht1⟩ := ht
  have L1 := h.now' t ⟨by omega, by omega⟩
  have s1 := set_shy g 4 (.int .i64 t) w
  have q1 : (p.most == 0) = false := by simp; omega
  have L2 := L1.ext (ext_alloc _ (.cells #[.int .i64 c, .string n] 46))
  have s2 := s1.ext (ext_alloc _ (.cells #[.int .i64 c, .string n] 46))
  have KB := Blk.new (w.setCell ⟨g, 4, none⟩ (.int .i64 t)) 46 #[.int .i64 c, .string n]
  rw [show (w.setCell ⟨g, 4, none⟩ (.int .i64 t)).heap.size = w.heap.size from by simp [World.setCell]] at KB
  have hszA : ((w.setCell ⟨g, 4, none⟩ (.int .i64 t)).alloc (.cells #[.int .i64 c, .string n] 46)).heap.size = w.heap.size + 1 := by simp [World.setCell]
  clear h L1 s1
  have q2 : decide ((255 : Int) < (n.size : Int)) = false := by simp; omega
  have q3 : decide (t < 0) = false := by simp; omega
  have q4 : decide ((1099511627776 : Int) < t) = false := by simp; omega
  have hmx : max now t = t := by omega
  go_enter Try.func9, Try.ntmps9
  go_wp2_with fail
  generalize (w.setCell ⟨g, 4, none⟩ (.int .i64 t)).alloc (.cells #[.int .i64 c, .string n] 46) = wA at L2 s2 KB hszA ⊢
  have hlk : ∀ nq, (Instr.lookup 24 (.map (some mb)) (.agg #[.int .i64 c, .string n]) true).run Try.prog (wA.drewN nq) = .ok (.tuple #[.pointer none, .bool false]) (wA.drewN nq) := by
    intro nq
    have hl := (L2.2.1.ext (ext_drewN wA nq)).look (t := 24) keyed Try.underlying24 (zero_ptr _) (kl_key hkb) true
    rw [tab_no L2.2.2.2.2.2.2.2.2.1 hkb hno] at hl
    exact hl
  have hrm := hid (fun nq => room_yes (L2.ext (ext_drewN wA nq)) hl)
  clear c0 c4 cf hmx
  obtain ⟨d0, d1, d2, d3, d4, d5, d6, df⟩ := L2.cells
  obtain ⟨e0, e1, ef⟩ := KB.two
  have L2 := hid L2
  have s2 := hid s2
  have KB := hid KB
  go_quiet (fail)
  go_wp2_with fail
  refine (hrm.out _).mono ?_
  rintro e _ ⟨rfl, nq2, rfl⟩
  go_wp2_with fail
  have hL3 := (L2.out.ext (ext_drewN wA (nq + nq2))).ext (ext_alloc _ (.cells #[.int .i64 t, .int .i64 0] 50))
  have hK3 := Blk.new (wA.drewN (nq + nq2)) 50 #[.int .i64 t, .int .i64 0]
  have hKB3 := (KB.out.drewN (nq + nq2)).alloc (.cells #[.int .i64 t, .int .i64 0] 50)
  rw [show (wA.drewN (nq + nq2)).heap.size = w.heap.size + 1 from hszA] at hK3
  have hsz3 : ((wA.drewN (nq + nq2)).alloc (.cells #[.int .i64 t, .int .i64 0] 50)).heap.size = w.heap.size + 2 := by
    simp [hszA]
  have x3 : Ext wA ((wA.drewN (nq + nq2)).alloc (.cells #[.int .i64 t, .int .i64 0] 50)) := ext_trans (ext_drewN wA _) (ext_alloc _ _)
  generalize (wA.drewN (nq + nq2)).alloc (.cells #[.int .i64 t, .int .i64 0] 50) = W3 at hL3 hK3 hKB3 hsz3 x3 ⊢
  obtain ⟨w4, hup, M4, t4⟩ := (hL3.2.1.ext (ext_drew W3)).store (t := 24) keyed Try.underlying24 (by unfold maxLen; omega) (kl_key hkb) (.pointer (some ⟨w.heap.size + 1, 0, none⟩))
  have t4 := t4.grown
  unfold kv at hup
  rw [tab_no hL3.2.2.2.2.2.2.2.2.1 hkb hno] at M4
  simp only [Option.isSome_none, Bool.false_eq_true, if_false] at M4
  clear d0 d1 d2 d3 d4 d5 d6 df e0 e1 ef hlk
  obtain ⟨_, _, _, _, _, d5, _, df⟩ := hL3.cells
  obtain ⟨e0, e1, ef⟩ := hKB3.two
  have hgm := hL3.gm
  have hmA := hL3.mA
  have hgA := hL3.gA
  have hM4 := hid M4
  clear M4
  have hmk : w.heap.size ≠ mb := blk_ne_map hKB3 hL3.2.1
  have hTA := blk_ne_own hK3 hL3.2.2.1 (by decide)
  have hTg : w.heap.size + 1 ≠ g := fun e => blk_ne hK3 hL3.1 (by decide) e
  have hmt : w.heap.size + 1 ≠ mb := blk_ne_map hK3 hL3.2.1
  have G4 := hid ((hL3.1.ext (ext_drew W3)).grown t4 (fun e => hgm (by injection e)))
  have KB4 := hid ((hKB3.ext (ext_drew W3)).grown t4 (fun e => hmk (by injection e)))
  have KT4 := hid ((hK3.ext (ext_drew W3)).grown t4 (fun e => hmt (by injection e)))
  have ow4 := hid ((hL3.2.2.1.ext (ext_drew W3)).grown t4 (fun b hb e => hmA (by rw [hb]; exact e)))
  have s4 : Shy (fun k => k = mb) W3 w4 := Shy.trans (Shy.of_ext (ext_drew W3)) (shy_of_grown t4) fun k _ hk => by injection hk with hk; exact hk.symm
  have s4 := hid s4
  have hL3 := hid hL3
  have hK3 := hid hK3
  have hKB3 := hid hKB3
  have x3 := hid x3
  clear t4
  go_region
  have d5' := G4.out.cell 6
  have d4' := G4.out.frozen
  obtain ⟨e0', e1', _⟩ := KB4.out.two
  have dd5 := (G4.out.alloc (.cells #[.int .i64 c, .string n] 46)).cell 6
  have nn1 := World.new_ne w4 _ d5'
  have nn2 := World.new_ne w4 _ e0'
  have nn3 := World.new_ne w4 _ e1'
  have nn4 : g ≠ w4.heap.size := Nat.ne_of_lt G4.out.lt
  have nn5 : w.heap.size ≠ w4.heap.size := Nat.ne_of_lt KB4.out.lt
  clear d5 df e0 e1 ef hup
  go_wp2_with fail
  go_region_law ((refine step_append_g rfl (.tmp 77) (.tmp 79) 25 rfl 0 46 i0 (.agg #[.int .i64 0, .string ⟨#[]⟩]) 2 24 Try.underlying25 hi hz0 hz1 hz2 rfl (by decide) (by simp [Value.cells, isOne, Value.oneCell']) (fun _ h => h) rfl (OwnG.ext ow4.out (ext_trans (ext_alloc _ _) (ext_drew _))) rfl ((rd_pair w4 _ _ _ _ rfl).ext (ext_drew _)) (by simp [isOne, Value.oneCell']) (by omega) (by unfold maxLen; omega) (Nat.zero_le _) ?_; intro A5 c5 w5 o5 g5 n5; have E5 : Ext w4 ((w4.alloc (.cells #[.int .i64 c, .string n] 46)).drew) := ext_trans (ext_alloc _ _) (ext_drew _); have G5 := (G4.out.ext (ext_trans (ext_alloc w4 (.cells #[.int .i64 c, .string n] 46)) (ext_drew _))).grown g5 (fun e => hgA e.symm); have d6 := G5.cell 6; have f6 := G5.frozen))
  all_goals
    have L6 : LimB (w5.setCell ⟨g, 6, none⟩ (.slice A5 (P.length + 1) c5)) g mb A5 c5 p t (P ++ [(⟨c, n, t, 0⟩, w.heap.size + 1)]) := by
      have hsz : ((w4.alloc (.cells #[.int .i64 c, .string n] 46)).drew).heap.size = w4.heap.size + 1 := by simp
      refine L2.out.add c n (w.heap.size + 1) hkb hno hl (by rw [hszA]; exact Nat.le_refl _) ?_ (by simpa using G5.set_ 6 (.slice A5 (P.length + 1) c5)) ?_ ?_ ?_
      · exact Shy.trans (Shy.trans (Shy.trans (Shy.of_ext x3.out) s4.out fun k _ h => .inr (.inl h)) (Shy.trans (Shy.of_ext (U := fun k => blk A = some k) E5) (shy_of_grown g5) fun _ _ h => h) fun k _ h => .inr (.inr h)) (set_shy g 6 _ _) fun k _ h => .inl h
      · exact (((hM4.out.ext E5).kept g5 (fun e => hmA e.symm))).setCell (by simpa using Ne.symm hgm) _
      · refine (set_shy g 6 _ w5).ownG o5 (fun k hk e => ?_)
        subst e
        have hglt := G4.out.lt
        rcases n5 with rfl | rfl
        · exact hgA hk
        · simp at hk; omega
      · exact ((KT4.out.ext E5).grown g5 (fun e => hTA e.symm)).far (by simpa using hTg) _
    have S6 : Shy (fun k => k = g ∨ k = mb ∨ blk A = some k) w (w5.setCell ⟨g, 6, none⟩ (.slice A5 (P.length + 1) c5)) := by
      refine Shy.trans (s2.out.mono fun k _ h => .inl h) (V := fun k => k = g ∨ k = mb ∨ blk A = some k) ?_ fun _ _ h => h
      exact Shy.trans (Shy.trans (Shy.trans (Shy.of_ext x3.out) s4.out fun k _ h => .inr (.inl h)) (Shy.trans (Shy.of_ext (U := fun k => blk A = some k) E5) (shy_of_grown g5) fun _ _ h => h) fun k _ h => .inr (.inr h)) (set_shy g 6 _ _) fun k _ h => .inl h
    have hA5 : ∀ k, blk A5 = some k → blk A = some k ∨ w.heap.size ≤ k := by
      intro k hk
      rcases n5 with rfl | rfl
      · exact .inl hk
      · simp at hk
        have := s4.out.size
        exact .inr (by omega)
    clear d5' d4' e0' e1' dd5 nn1 nn2 nn3 nn4 nn5 d6 f6 o5 g5 n5 G5 E5
    generalize w5.setCell ⟨g, 6, none⟩ (.slice A5 (P.length + 1) c5) = w6 at L6 S6 ⊢
    have L6 := hid L6
    have S6 := hid S6
    have hA5 := hid hA5
    have KT := L6.out.2.2.2.1 (⟨c, n, t, 0⟩, w.heap.size + 1) (by simp)
    obtain ⟨t0, t1, tf⟩ := KT.two
    obtain ⟨_, _, _, _, _, _, _, df⟩ := L6.out.cells
    have hO : overB p t t = false := by unfold overB; simp; omega
    have hov : ∀ nq, Calls Try.prog 16 #[.pointer (some ⟨g, 0, none⟩), .pointer (some ⟨w.heap.size + 1, 0, none⟩)] (w6.drewN nq) fun e w' => e = .returned (.bool false) ∧ ∃ n, w' = (w6.drewN nq).drewN n := by
      intro nq
      have := over_any (L6.out.ext (ext_drewN w6 nq)) (KT.ext (ext_drewN w6 nq)) ⟨by simp only; omega, by simp only; omega⟩
      simp only [hO] at this
      exact this
    have hov := hid hov
    have hlt := hid L6.out.lt
    have hlim := hid L6.out.cells
    have KT := hid KT
    have hgt' : g ≠ w.heap.size + 1 := Ne.symm hTg
    have hend : ∀ (W : World), Shy (fun j => j = w.heap.size + 1) w6 W → Blk W (w.heap.size + 1) 50 #[.int .i64 t, .int .i64 1] → ∀ e, e = .returned (.int .i64 (codeS p 1)) → JudgeN w W e g mb A p t P c n := by
      intro W hs hb e he
      have := L6.out.turn (P1 := P) (P2 := []) (r := (⟨c, n, t, 0⟩, w.heap.size + 1)) t 1 ⟨by omega, by omega⟩ ⟨by decide, by decide⟩ hs hb
      have hlast : Shy (fun k => k = g ∨ k = mb ∨ blk A = some k) w W :=
        ⟨hs.os.trans S6.out.os, hs.tape.trans S6.out.tape, hs.output.trans S6.out.output, Nat.le_trans S6.out.size hs.size, fun k hk hn => (hs.block k (Nat.lt_of_lt_of_le hk S6.out.size) (fun e => by have e : k = w.heap.size + 1 := e; omega)).trans (S6.out.block k hk hn)⟩
      exact ⟨he, A5, c5, w.heap.size + 1, this, by omega, hA5.out, hlast⟩
    have hend := hid hend
    clear hO L2 s2 KB hrm G4 KB4 KT4 ow4 s4 hL3 hK3 hKB3 x3 hM4 hszA hsz3 hTA hmt hmk hgm hmA hgA
    rcases (show (1 : Int) - p.limit ≤ 0 ∨ (0 < 1 - p.limit ∧ p.slip = 0) ∨ (0 < 1 - p.limit ∧ 0 < p.slip ∧ (1 - p.limit) % p.slip = 0) ∨ (0 < 1 - p.limit ∧ 0 < p.slip ∧ ¬ (1 - p.limit) % p.slip = 0) by omega) with hA | ⟨hA, hB⟩ | ⟨hA, hB, hC⟩ | ⟨hA, hB, hC⟩
    · have hcode := hid (show codeS p 1 = 0 by unfold codeS; rw [if_pos hA])
      have y1 : decide (0 < 1 - p.limit) = false := by simp; omega
      go_wp2_with fail
      refine (hov.out 0).mono ?_
      rintro e _ ⟨rfl, nq2, rfl⟩
      go_wp2_with fail
      have hB2 : Blk ((w6.drewN nq2).setCell ⟨w.heap.size + 1, 1, none⟩ (.int .i64 1)) (w.heap.size + 1) 50 #[.int .i64 t, .int .i64 1] := (KT.out.drewN nq2).set_ 1 (.int .i64 1)
      have hS2 : Shy (fun j => j = w.heap.size + 1) w6 ((w6.drewN nq2).setCell ⟨w.heap.size + 1, 1, none⟩ (.int .i64 1)) := Shy.trans (shy_drewN (U := fun j => j = w.heap.size + 1) _ _) (set_shy (w.heap.size + 1) 1 _ _) fun _ _ h => h
      generalize ((w6.drewN nq2).setCell ⟨w.heap.size + 1, 1, none⟩ (.int .i64 1)) = wB at hB2 hS2 ⊢
      clear t0 t1 tf df
      obtain ⟨_, d1, _, d3, _, _, _, df⟩ := hlim.out
      have hg' : ∀ i, wB.cell? ⟨g, i, none⟩ = w6.cell? ⟨g, i, none⟩ := fun i => World.cell?_of_block (hS2.block g (hlt.out g (.inl rfl)) hgt')
      have z1 : wB.cell? ⟨g, 1, none⟩ = some (.int .i64 p.limit) := (hg' 1).trans d1
      have z3 : wB.cell? ⟨g, 3, none⟩ = some (.int .i64 p.slip) := (hg' 3).trans d3
      have z4 : wB.cell? ⟨w.heap.size + 1, 1, none⟩ = some (.int .i64 1) := hB2.cell 1
      have hB2 := hid hB2
      have hS2 := hid hS2
      clear hg' d1 d3 df
      go_quiet (fail)
      go_wp2_with fail
      go_ret
      exact hend.out _ (Shy.trans hS2.out (shy_drewN (U := fun j => j = w.heap.size + 1) _ _) fun _ _ h => h) (hB2.out.drewN _) _ (by rw [hcode.out]; rfl)
    · have hcode := hid (show codeS p 1 = 2 by unfold codeS; rw [if_neg (by omega), if_neg (by omega)])
      go_wp2_with fail
      refine (hov.out 0).mono ?_
      rintro e _ ⟨rfl, nq2, rfl⟩
      go_wp2_with fail
      have hB2 : Blk ((w6.drewN nq2).setCell ⟨w.heap.size + 1, 1, none⟩ (.int .i64 1)) (w.heap.size + 1) 50 #[.int .i64 t, .int .i64 1] := (KT.out.drewN nq2).set_ 1 (.int .i64 1)
      have hS2 : Shy (fun j => j = w.heap.size + 1) w6 ((w6.drewN nq2).setCell ⟨w.heap.size + 1, 1, none⟩ (.int .i64 1)) := Shy.trans (shy_drewN (U := fun j => j = w.heap.size + 1) _ _) (set_shy (w.heap.size + 1) 1 _ _) fun _ _ h => h
      generalize ((w6.drewN nq2).setCell ⟨w.heap.size + 1, 1, none⟩ (.int .i64 1)) = wB at hB2 hS2 ⊢
      clear t0 t1 tf df
      obtain ⟨_, d1, _, d3, _, _, _, df⟩ := hlim.out
      have hg' : ∀ i, wB.cell? ⟨g, i, none⟩ = w6.cell? ⟨g, i, none⟩ := fun i => World.cell?_of_block (hS2.block g (hlt.out g (.inl rfl)) hgt')
      have z1 : wB.cell? ⟨g, 1, none⟩ = some (.int .i64 p.limit) := (hg' 1).trans d1
      have z3 : wB.cell? ⟨g, 3, none⟩ = some (.int .i64 p.slip) := (hg' 3).trans d3
      have z4 : wB.cell? ⟨w.heap.size + 1, 1, none⟩ = some (.int .i64 1) := hB2.cell 1
      have hB2 := hid hB2
      have hS2 := hid hS2
      clear hg' d1 d3 df
      go_quiet (fail)
      go_wp2_with fail
      go_ret
      exact hend.out _ (Shy.trans hS2.out (shy_drewN (U := fun j => j = w.heap.size + 1) _ _) fun _ _ h => h) (hB2.out.drewN _) _ (by rw [hcode.out]; rfl)
    · have hcode := hid (show codeS p 1 = 1 by unfold codeS; rw [if_neg (by omega), if_pos ⟨hB, hC⟩])
      have y3 : ((1 - p.limit) % p.slip == 0) = true := by simpa using hC
      clear hC
      go_wp2_with fail
      refine (hov.out 0).mono ?_
      rintro e _ ⟨rfl, nq2, rfl⟩
      go_wp2_with fail
      have hB2 : Blk ((w6.drewN nq2).setCell ⟨w.heap.size + 1, 1, none⟩ (.int .i64 1)) (w.heap.size + 1) 50 #[.int .i64 t, .int .i64 1] := (KT.out.drewN nq2).set_ 1 (.int .i64 1)
      have hS2 : Shy (fun j => j = w.heap.size + 1) w6 ((w6.drewN nq2).setCell ⟨w.heap.size + 1, 1, none⟩ (.int .i64 1)) := Shy.trans (shy_drewN (U := fun j => j = w.heap.size + 1) _ _) (set_shy (w.heap.size + 1) 1 _ _) fun _ _ h => h
      generalize ((w6.drewN nq2).setCell ⟨w.heap.size + 1, 1, none⟩ (.int .i64 1)) = wB at hB2 hS2 ⊢
      clear t0 t1 tf df
      obtain ⟨_, d1, _, d3, _, _, _, df⟩ := hlim.out
      have hg' : ∀ i, wB.cell? ⟨g, i, none⟩ = w6.cell? ⟨g, i, none⟩ := fun i => World.cell?_of_block (hS2.block g (hlt.out g (.inl rfl)) hgt')
      have z1 : wB.cell? ⟨g, 1, none⟩ = some (.int .i64 p.limit) := (hg' 1).trans d1
      have z3 : wB.cell? ⟨g, 3, none⟩ = some (.int .i64 p.slip) := (hg' 3).trans d3
      have z4 : wB.cell? ⟨w.heap.size + 1, 1, none⟩ = some (.int .i64 1) := hB2.cell 1
      have hB2 := hid hB2
      have hS2 := hid hS2
      clear hg' d1 d3 df
      go_quiet (fail)
      go_wp2_with fail
      go_ret
      exact hend.out _ (Shy.trans hS2.out (shy_drewN (U := fun j => j = w.heap.size + 1) _ _) fun _ _ h => h) (hB2.out.drewN _) _ (by rw [hcode.out]; rfl)
    · have hcode := hid (show codeS p 1 = 2 by unfold codeS; rw [if_neg (by omega), if_neg (fun h => hC h.2)])
      have y3 : ((1 - p.limit) % p.slip == 0) = false := by simpa using hC
      clear hC
      go_wp2_with fail
      refine (hov.out 0).mono ?_
      rintro e _ ⟨rfl, nq2, rfl⟩
      go_wp2_with fail
      have hB2 : Blk ((w6.drewN nq2).setCell ⟨w.heap.size + 1, 1, none⟩ (.int .i64 1)) (w.heap.size + 1) 50 #[.int .i64 t, .int .i64 1] := (KT.out.drewN nq2).set_ 1 (.int .i64 1)
      have hS2 : Shy (fun j => j = w.heap.size + 1) w6 ((w6.drewN nq2).setCell ⟨w.heap.size + 1, 1, none⟩ (.int .i64 1)) := Shy.trans (shy_drewN (U := fun j => j = w.heap.size + 1) _ _) (set_shy (w.heap.size + 1) 1 _ _) fun _ _ h => h
      generalize ((w6.drewN nq2).setCell ⟨w.heap.size + 1, 1, none⟩ (.int .i64 1)) = wB at hB2 hS2 ⊢
      clear t0 t1 tf df
      obtain ⟨_, d1, _, d3, _, _, _, df⟩ := hlim.out
      have hg' : ∀ i, wB.cell? ⟨g, i, none⟩ = w6.cell? ⟨g, i, none⟩ := fun i => World.cell?_of_block (hS2.block g (hlt.out g (.inl rfl)) hgt')
      have z1 : wB.cell? ⟨g, 1, none⟩ = some (.int .i64 p.limit) := (hg' 1).trans d1
      have z3 : wB.cell? ⟨g, 3, none⟩ = some (.int .i64 p.slip) := (hg' 3).trans d3
      have z4 : wB.cell? ⟨w.heap.size + 1, 1, none⟩ = some (.int .i64 1) := hB2.cell 1
      have hB2 := hid hB2
      have hS2 := hid hS2
      clear hg' d1 d3 df
      go_quiet (fail)
      go_wp2_with fail
      go_ret
      exact hend.out _ (Shy.trans hS2.out (shy_drewN (U := fun j => j = w.heap.size + 1) _ _) fun _ _ h => h) (hB2.out.drewN _) _ (by rw [hcode.out]; rfl)
set_option maxHeartbeats 4000000 in
set_option maxRecDepth 100000 in
theorem judge_new_n {w : World} {g mb : Nat} {A : Option Addr} {cc : Nat} {p : Par} {now : Int} {P : List Row} (c : Int) (n : ByteArray) (t : Int) (h : LimB w g mb A cc p now P) (hkb : wfK c n) (hno : ∀ r ∈ P, ¬ r.is c n) (hl : (P.length : Int) < p.most) (ht : 0 ≤ t ∧ t ≤ 1099511627776) (hle : t ≤ now) :
    Calls Try.prog 9 #[.pointer (some ⟨g, 0, none⟩), .int .i64 c, .string n, .int .i64 t] w fun e w' => JudgeN w w' e g mb A p now P c n := by
  obtain ⟨hp1, hp2, hp3, hp4, hp5, hp6, hp7, hp8⟩ := h.2.2.2.2.1
  obtain ⟨i0, hi, hz0, hz1, hz2⟩ := info_parts info_key
  have hn0 := h.2.2.2.2.2.1
  have hn1 := h.2.2.2.2.2.2.1
  obtain ⟨hrc, hrn⟩ := id hkb
  obtain ⟨c0, _, _, _, c4, _, _, cf⟩ := h.cells
  obtain ⟨ht0, ht1⟩ := ht
  have L1 := h.now' now ⟨by omega, by omega⟩
  have s1 := set_shy g 4 (.int .i64 now) w
  have q1 : (p.most == 0) = false := by simp; omega
  have L2 := L1.ext (ext_alloc _ (.cells #[.int .i64 c, .string n] 46))
  have s2 := s1.ext (ext_alloc _ (.cells #[.int .i64 c, .string n] 46))
  have KB := Blk.new (w.setCell ⟨g, 4, none⟩ (.int .i64 now)) 46 #[.int .i64 c, .string n]
  rw [show (w.setCell ⟨g, 4, none⟩ (.int .i64 now)).heap.size = w.heap.size from by simp [World.setCell]] at KB
  have hszA : ((w.setCell ⟨g, 4, none⟩ (.int .i64 now)).alloc (.cells #[.int .i64 c, .string n] 46)).heap.size = w.heap.size + 1 := by simp [World.setCell]
  clear h L1 s1
  have q2 : decide ((255 : Int) < (n.size : Int)) = false := by simp; omega
  have q3 : decide (t < 0) = false := by simp; omega
  have q4 : decide ((1099511627776 : Int) < t) = false := by simp; omega
  have hmx : max now t = now := by omega
  go_enter Try.func9, Try.ntmps9
  go_wp2_with fail
  generalize (w.setCell ⟨g, 4, none⟩ (.int .i64 now)).alloc (.cells #[.int .i64 c, .string n] 46) = wA at L2 s2 KB hszA ⊢
  have hlk : ∀ nq, (Instr.lookup 24 (.map (some mb)) (.agg #[.int .i64 c, .string n]) true).run Try.prog (wA.drewN nq) = .ok (.tuple #[.pointer none, .bool false]) (wA.drewN nq) := by
    intro nq
    have hl := (L2.2.1.ext (ext_drewN wA nq)).look (t := 24) keyed Try.underlying24 (zero_ptr _) (kl_key hkb) true
    rw [tab_no L2.2.2.2.2.2.2.2.2.1 hkb hno] at hl
    exact hl
  have hrm := hid (fun nq => room_yes (L2.ext (ext_drewN wA nq)) hl)
  clear c0 c4 cf hmx
  obtain ⟨d0, d1, d2, d3, d4, d5, d6, df⟩ := L2.cells
  obtain ⟨e0, e1, ef⟩ := KB.two
  have L2 := hid L2
  have s2 := hid s2
  have KB := hid KB
  go_quiet (fail)
  go_wp2_with fail
  refine (hrm.out _).mono ?_
  rintro e _ ⟨rfl, nq2, rfl⟩
  go_wp2_with fail
  have hL3 := (L2.out.ext (ext_drewN wA (nq + nq2))).ext (ext_alloc _ (.cells #[.int .i64 now, .int .i64 0] 50))
  have hK3 := Blk.new (wA.drewN (nq + nq2)) 50 #[.int .i64 now, .int .i64 0]
  have hKB3 := (KB.out.drewN (nq + nq2)).alloc (.cells #[.int .i64 now, .int .i64 0] 50)
  rw [show (wA.drewN (nq + nq2)).heap.size = w.heap.size + 1 from hszA] at hK3
  have hsz3 : ((wA.drewN (nq + nq2)).alloc (.cells #[.int .i64 now, .int .i64 0] 50)).heap.size = w.heap.size + 2 := by
    simp [hszA]
  have x3 : Ext wA ((wA.drewN (nq + nq2)).alloc (.cells #[.int .i64 now, .int .i64 0] 50)) := ext_trans (ext_drewN wA _) (ext_alloc _ _)
  generalize (wA.drewN (nq + nq2)).alloc (.cells #[.int .i64 now, .int .i64 0] 50) = W3 at hL3 hK3 hKB3 hsz3 x3 ⊢
  obtain ⟨w4, hup, M4, t4⟩ := (hL3.2.1.ext (ext_drew W3)).store (t := 24) keyed Try.underlying24 (by unfold maxLen; omega) (kl_key hkb) (.pointer (some ⟨w.heap.size + 1, 0, none⟩))
  have t4 := t4.grown
  unfold kv at hup
  rw [tab_no hL3.2.2.2.2.2.2.2.2.1 hkb hno] at M4
  simp only [Option.isSome_none, Bool.false_eq_true, if_false] at M4
  clear d0 d1 d2 d3 d4 d5 d6 df e0 e1 ef hlk
  obtain ⟨_, _, _, _, _, d5, _, df⟩ := hL3.cells
  obtain ⟨e0, e1, ef⟩ := hKB3.two
  have hgm := hL3.gm
  have hmA := hL3.mA
  have hgA := hL3.gA
  have hM4 := hid M4
  clear M4
  have hmk : w.heap.size ≠ mb := blk_ne_map hKB3 hL3.2.1
  have hTA := blk_ne_own hK3 hL3.2.2.1 (by decide)
  have hTg : w.heap.size + 1 ≠ g := fun e => blk_ne hK3 hL3.1 (by decide) e
  have hmt : w.heap.size + 1 ≠ mb := blk_ne_map hK3 hL3.2.1
  have G4 := hid ((hL3.1.ext (ext_drew W3)).grown t4 (fun e => hgm (by injection e)))
  have KB4 := hid ((hKB3.ext (ext_drew W3)).grown t4 (fun e => hmk (by injection e)))
  have KT4 := hid ((hK3.ext (ext_drew W3)).grown t4 (fun e => hmt (by injection e)))
  have ow4 := hid ((hL3.2.2.1.ext (ext_drew W3)).grown t4 (fun b hb e => hmA (by rw [hb]; exact e)))
  have s4 : Shy (fun k => k = mb) W3 w4 := Shy.trans (Shy.of_ext (ext_drew W3)) (shy_of_grown t4) fun k _ hk => by injection hk with hk; exact hk.symm
  have s4 := hid s4
  have hL3 := hid hL3
  have hK3 := hid hK3
  have hKB3 := hid hKB3
  have x3 := hid x3
  clear t4
  go_region
  have d5' := G4.out.cell 6
  have d4' := G4.out.frozen
  obtain ⟨e0', e1', _⟩ := KB4.out.two
  have dd5 := (G4.out.alloc (.cells #[.int .i64 c, .string n] 46)).cell 6
  have nn1 := World.new_ne w4 _ d5'
  have nn2 := World.new_ne w4 _ e0'
  have nn3 := World.new_ne w4 _ e1'
  have nn4 : g ≠ w4.heap.size := Nat.ne_of_lt G4.out.lt
  have nn5 : w.heap.size ≠ w4.heap.size := Nat.ne_of_lt KB4.out.lt
  clear d5 df e0 e1 ef hup
  go_wp2_with fail
  go_region_law ((refine step_append_g rfl (.tmp 77) (.tmp 79) 25 rfl 0 46 i0 (.agg #[.int .i64 0, .string ⟨#[]⟩]) 2 24 Try.underlying25 hi hz0 hz1 hz2 rfl (by decide) (by simp [Value.cells, isOne, Value.oneCell']) (fun _ h => h) rfl (OwnG.ext ow4.out (ext_trans (ext_alloc _ _) (ext_drew _))) rfl ((rd_pair w4 _ _ _ _ rfl).ext (ext_drew _)) (by simp [isOne, Value.oneCell']) (by omega) (by unfold maxLen; omega) (Nat.zero_le _) ?_; intro A5 c5 w5 o5 g5 n5; have E5 : Ext w4 ((w4.alloc (.cells #[.int .i64 c, .string n] 46)).drew) := ext_trans (ext_alloc _ _) (ext_drew _); have G5 := (G4.out.ext (ext_trans (ext_alloc w4 (.cells #[.int .i64 c, .string n] 46)) (ext_drew _))).grown g5 (fun e => hgA e.symm); have d6 := G5.cell 6; have f6 := G5.frozen))
  all_goals
    have L6 : LimB (w5.setCell ⟨g, 6, none⟩ (.slice A5 (P.length + 1) c5)) g mb A5 c5 p now (P ++ [(⟨c, n, now, 0⟩, w.heap.size + 1)]) := by
      have hsz : ((w4.alloc (.cells #[.int .i64 c, .string n] 46)).drew).heap.size = w4.heap.size + 1 := by simp
      refine L2.out.add c n (w.heap.size + 1) hkb hno hl (by rw [hszA]; exact Nat.le_refl _) ?_ (by simpa using G5.set_ 6 (.slice A5 (P.length + 1) c5)) ?_ ?_ ?_
      · exact Shy.trans (Shy.trans (Shy.trans (Shy.of_ext x3.out) s4.out fun k _ h => .inr (.inl h)) (Shy.trans (Shy.of_ext (U := fun k => blk A = some k) E5) (shy_of_grown g5) fun _ _ h => h) fun k _ h => .inr (.inr h)) (set_shy g 6 _ _) fun k _ h => .inl h
      · exact (((hM4.out.ext E5).kept g5 (fun e => hmA e.symm))).setCell (by simpa using Ne.symm hgm) _
      · refine (set_shy g 6 _ w5).ownG o5 (fun k hk e => ?_)
        subst e
        have hglt := G4.out.lt
        rcases n5 with rfl | rfl
        · exact hgA hk
        · simp at hk; omega
      · exact ((KT4.out.ext E5).grown g5 (fun e => hTA e.symm)).far (by simpa using hTg) _
    have S6 : Shy (fun k => k = g ∨ k = mb ∨ blk A = some k) w (w5.setCell ⟨g, 6, none⟩ (.slice A5 (P.length + 1) c5)) := by
      refine Shy.trans (s2.out.mono fun k _ h => .inl h) (V := fun k => k = g ∨ k = mb ∨ blk A = some k) ?_ fun _ _ h => h
      exact Shy.trans (Shy.trans (Shy.trans (Shy.of_ext x3.out) s4.out fun k _ h => .inr (.inl h)) (Shy.trans (Shy.of_ext (U := fun k => blk A = some k) E5) (shy_of_grown g5) fun _ _ h => h) fun k _ h => .inr (.inr h)) (set_shy g 6 _ _) fun k _ h => .inl h
    have hA5 : ∀ k, blk A5 = some k → blk A = some k ∨ w.heap.size ≤ k := by
      intro k hk
      rcases n5 with rfl | rfl
      · exact .inl hk
      · simp at hk
        have := s4.out.size
        exact .inr (by omega)
    clear d5' d4' e0' e1' dd5 nn1 nn2 nn3 nn4 nn5 d6 f6 o5 g5 n5 G5 E5
    generalize w5.setCell ⟨g, 6, none⟩ (.slice A5 (P.length + 1) c5) = w6 at L6 S6 ⊢
    have L6 := hid L6
    have S6 := hid S6
    have hA5 := hid hA5
    have KT := L6.out.2.2.2.1 (⟨c, n, now, 0⟩, w.heap.size + 1) (by simp)
    obtain ⟨t0, t1, tf⟩ := KT.two
    obtain ⟨_, _, _, _, _, _, _, df⟩ := L6.out.cells
    have hO : overB p now now = false := by unfold overB; simp; omega
    have hov : ∀ nq, Calls Try.prog 16 #[.pointer (some ⟨g, 0, none⟩), .pointer (some ⟨w.heap.size + 1, 0, none⟩)] (w6.drewN nq) fun e w' => e = .returned (.bool false) ∧ ∃ n, w' = (w6.drewN nq).drewN n := by
      intro nq
      have := over_any (L6.out.ext (ext_drewN w6 nq)) (KT.ext (ext_drewN w6 nq)) ⟨by simp only; omega, by simp only; omega⟩
      simp only [hO] at this
      exact this
    have hov := hid hov
    have hlt := hid L6.out.lt
    have hlim := hid L6.out.cells
    have KT := hid KT
    have hgt' : g ≠ w.heap.size + 1 := Ne.symm hTg
    have hend : ∀ (W : World), Shy (fun j => j = w.heap.size + 1) w6 W → Blk W (w.heap.size + 1) 50 #[.int .i64 now, .int .i64 1] → ∀ e, e = .returned (.int .i64 (codeS p 1)) → JudgeN w W e g mb A p now P c n := by
      intro W hs hb e he
      have := L6.out.turn (P1 := P) (P2 := []) (r := (⟨c, n, now, 0⟩, w.heap.size + 1)) now 1 ⟨by omega, by omega⟩ ⟨by decide, by decide⟩ hs hb
      have hlast : Shy (fun k => k = g ∨ k = mb ∨ blk A = some k) w W :=
        ⟨hs.os.trans S6.out.os, hs.tape.trans S6.out.tape, hs.output.trans S6.out.output, Nat.le_trans S6.out.size hs.size, fun k hk hn => (hs.block k (Nat.lt_of_lt_of_le hk S6.out.size) (fun e => by have e : k = w.heap.size + 1 := e; omega)).trans (S6.out.block k hk hn)⟩
      exact ⟨he, A5, c5, w.heap.size + 1, this, by omega, hA5.out, hlast⟩
    have hend := hid hend
    clear hO L2 s2 KB hrm G4 KB4 KT4 ow4 s4 hL3 hK3 hKB3 x3 hM4 hszA hsz3 hTA hmt hmk hgm hmA hgA
    rcases (show (1 : Int) - p.limit ≤ 0 ∨ (0 < 1 - p.limit ∧ p.slip = 0) ∨ (0 < 1 - p.limit ∧ 0 < p.slip ∧ (1 - p.limit) % p.slip = 0) ∨ (0 < 1 - p.limit ∧ 0 < p.slip ∧ ¬ (1 - p.limit) % p.slip = 0) by omega) with hA | ⟨hA, hB⟩ | ⟨hA, hB, hC⟩ | ⟨hA, hB, hC⟩
    · have hcode := hid (show codeS p 1 = 0 by unfold codeS; rw [if_pos hA])
      have y1 : decide (0 < 1 - p.limit) = false := by simp; omega
      go_wp2_with fail
      refine (hov.out 0).mono ?_
      rintro e _ ⟨rfl, nq2, rfl⟩
      go_wp2_with fail
      have hB2 : Blk ((w6.drewN nq2).setCell ⟨w.heap.size + 1, 1, none⟩ (.int .i64 1)) (w.heap.size + 1) 50 #[.int .i64 now, .int .i64 1] := (KT.out.drewN nq2).set_ 1 (.int .i64 1)
      have hS2 : Shy (fun j => j = w.heap.size + 1) w6 ((w6.drewN nq2).setCell ⟨w.heap.size + 1, 1, none⟩ (.int .i64 1)) := Shy.trans (shy_drewN (U := fun j => j = w.heap.size + 1) _ _) (set_shy (w.heap.size + 1) 1 _ _) fun _ _ h => h
      generalize ((w6.drewN nq2).setCell ⟨w.heap.size + 1, 1, none⟩ (.int .i64 1)) = wB at hB2 hS2 ⊢
      clear t0 t1 tf df
      obtain ⟨_, d1, _, d3, _, _, _, df⟩ := hlim.out
      have hg' : ∀ i, wB.cell? ⟨g, i, none⟩ = w6.cell? ⟨g, i, none⟩ := fun i => World.cell?_of_block (hS2.block g (hlt.out g (.inl rfl)) hgt')
      have z1 : wB.cell? ⟨g, 1, none⟩ = some (.int .i64 p.limit) := (hg' 1).trans d1
      have z3 : wB.cell? ⟨g, 3, none⟩ = some (.int .i64 p.slip) := (hg' 3).trans d3
      have z4 : wB.cell? ⟨w.heap.size + 1, 1, none⟩ = some (.int .i64 1) := hB2.cell 1
      have hB2 := hid hB2
      have hS2 := hid hS2
      clear hg' d1 d3 df
      go_quiet (fail)
      go_wp2_with fail
      go_ret
      exact hend.out _ (Shy.trans hS2.out (shy_drewN (U := fun j => j = w.heap.size + 1) _ _) fun _ _ h => h) (hB2.out.drewN _) _ (by rw [hcode.out]; rfl)
    · have hcode := hid (show codeS p 1 = 2 by unfold codeS; rw [if_neg (by omega), if_neg (by omega)])
      go_wp2_with fail
      refine (hov.out 0).mono ?_
      rintro e _ ⟨rfl, nq2, rfl⟩
      go_wp2_with fail
      have hB2 : Blk ((w6.drewN nq2).setCell ⟨w.heap.size + 1, 1, none⟩ (.int .i64 1)) (w.heap.size + 1) 50 #[.int .i64 now, .int .i64 1] := (KT.out.drewN nq2).set_ 1 (.int .i64 1)
      have hS2 : Shy (fun j => j = w.heap.size + 1) w6 ((w6.drewN nq2).setCell ⟨w.heap.size + 1, 1, none⟩ (.int .i64 1)) := Shy.trans (shy_drewN (U := fun j => j = w.heap.size + 1) _ _) (set_shy (w.heap.size + 1) 1 _ _) fun _ _ h => h
      generalize ((w6.drewN nq2).setCell ⟨w.heap.size + 1, 1, none⟩ (.int .i64 1)) = wB at hB2 hS2 ⊢
      clear t0 t1 tf df
      obtain ⟨_, d1, _, d3, _, _, _, df⟩ := hlim.out
      have hg' : ∀ i, wB.cell? ⟨g, i, none⟩ = w6.cell? ⟨g, i, none⟩ := fun i => World.cell?_of_block (hS2.block g (hlt.out g (.inl rfl)) hgt')
      have z1 : wB.cell? ⟨g, 1, none⟩ = some (.int .i64 p.limit) := (hg' 1).trans d1
      have z3 : wB.cell? ⟨g, 3, none⟩ = some (.int .i64 p.slip) := (hg' 3).trans d3
      have z4 : wB.cell? ⟨w.heap.size + 1, 1, none⟩ = some (.int .i64 1) := hB2.cell 1
      have hB2 := hid hB2
      have hS2 := hid hS2
      clear hg' d1 d3 df
      go_quiet (fail)
      go_wp2_with fail
      go_ret
      exact hend.out _ (Shy.trans hS2.out (shy_drewN (U := fun j => j = w.heap.size + 1) _ _) fun _ _ h => h) (hB2.out.drewN _) _ (by rw [hcode.out]; rfl)
    · have hcode := hid (show codeS p 1 = 1 by unfold codeS; rw [if_neg (by omega), if_pos ⟨hB, hC⟩])
      have y3 : ((1 - p.limit) % p.slip == 0) = true := by simpa using hC
      clear hC
      go_wp2_with fail
      refine (hov.out 0).mono ?_
      rintro e _ ⟨rfl, nq2, rfl⟩
      go_wp2_with fail
      have hB2 : Blk ((w6.drewN nq2).setCell ⟨w.heap.size + 1, 1, none⟩ (.int .i64 1)) (w.heap.size + 1) 50 #[.int .i64 now, .int .i64 1] := (KT.out.drewN nq2).set_ 1 (.int .i64 1)
      have hS2 : Shy (fun j => j = w.heap.size + 1) w6 ((w6.drewN nq2).setCell ⟨w.heap.size + 1, 1, none⟩ (.int .i64 1)) := Shy.trans (shy_drewN (U := fun j => j = w.heap.size + 1) _ _) (set_shy (w.heap.size + 1) 1 _ _) fun _ _ h => h
      generalize ((w6.drewN nq2).setCell ⟨w.heap.size + 1, 1, none⟩ (.int .i64 1)) = wB at hB2 hS2 ⊢
      clear t0 t1 tf df
      obtain ⟨_, d1, _, d3, _, _, _, df⟩ := hlim.out
      have hg' : ∀ i, wB.cell? ⟨g, i, none⟩ = w6.cell? ⟨g, i, none⟩ := fun i => World.cell?_of_block (hS2.block g (hlt.out g (.inl rfl)) hgt')
      have z1 : wB.cell? ⟨g, 1, none⟩ = some (.int .i64 p.limit) := (hg' 1).trans d1
      have z3 : wB.cell? ⟨g, 3, none⟩ = some (.int .i64 p.slip) := (hg' 3).trans d3
      have z4 : wB.cell? ⟨w.heap.size + 1, 1, none⟩ = some (.int .i64 1) := hB2.cell 1
      have hB2 := hid hB2
      have hS2 := hid hS2
      clear hg' d1 d3 df
      go_quiet (fail)
      go_wp2_with fail
      go_ret
      exact hend.out _ (Shy.trans hS2.out (shy_drewN (U := fun j => j = w.heap.size + 1) _ _) fun _ _ h => h) (hB2.out.drewN _) _ (by rw [hcode.out]; rfl)
    · have hcode := hid (show codeS p 1 = 2 by unfold codeS; rw [if_neg (by omega), if_neg (fun h => hC h.2)])
      have y3 : ((1 - p.limit) % p.slip == 0) = false := by simpa using hC
      clear hC
      go_wp2_with fail
      refine (hov.out 0).mono ?_
      rintro e _ ⟨rfl, nq2, rfl⟩
      go_wp2_with fail
      have hB2 : Blk ((w6.drewN nq2).setCell ⟨w.heap.size + 1, 1, none⟩ (.int .i64 1)) (w.heap.size + 1) 50 #[.int .i64 now, .int .i64 1] := (KT.out.drewN nq2).set_ 1 (.int .i64 1)
      have hS2 : Shy (fun j => j = w.heap.size + 1) w6 ((w6.drewN nq2).setCell ⟨w.heap.size + 1, 1, none⟩ (.int .i64 1)) := Shy.trans (shy_drewN (U := fun j => j = w.heap.size + 1) _ _) (set_shy (w.heap.size + 1) 1 _ _) fun _ _ h => h
      generalize ((w6.drewN nq2).setCell ⟨w.heap.size + 1, 1, none⟩ (.int .i64 1)) = wB at hB2 hS2 ⊢
      clear t0 t1 tf df
      obtain ⟨_, d1, _, d3, _, _, _, df⟩ := hlim.out
      have hg' : ∀ i, wB.cell? ⟨g, i, none⟩ = w6.cell? ⟨g, i, none⟩ := fun i => World.cell?_of_block (hS2.block g (hlt.out g (.inl rfl)) hgt')
      have z1 : wB.cell? ⟨g, 1, none⟩ = some (.int .i64 p.limit) := (hg' 1).trans d1
      have z3 : wB.cell? ⟨g, 3, none⟩ = some (.int .i64 p.slip) := (hg' 3).trans d3
      have z4 : wB.cell? ⟨w.heap.size + 1, 1, none⟩ = some (.int .i64 1) := hB2.cell 1
      have hB2 := hid hB2
      have hS2 := hid hS2
      clear hg' d1 d3 df
      go_quiet (fail)
      go_wp2_with fail
      go_ret
      exact hend.out _ (Shy.trans hS2.out (shy_drewN (U := fun j => j = w.heap.size + 1) _ _) fun _ _ h => h) (hB2.out.drewN _) _ (by rw [hcode.out]; rfl)
theorem judge_new {w : World} {g mb : Nat} {A : Option Addr} {cc : Nat} {p : Par} {now : Int} {P : List Row} (c : Int) (n : ByteArray) (t : Int) (h : LimB w g mb A cc p now P) (hkb : wfK c n) (hno : ∀ r ∈ P, ¬ r.is c n) (hl : (P.length : Int) < p.most) (ht : 0 ≤ t ∧ t ≤ 1099511627776) :
    Calls Try.prog 9 #[.pointer (some ⟨g, 0, none⟩), .int .i64 c, .string n, .int .i64 t] w fun e w' => JudgeN w w' e g mb A p (max now t) P c n := by
  by_cases hle : now < t
  · rw [Int.max_eq_right (by omega)]; exact judge_new_t c n t h hkb hno hl ht hle
  · rw [Int.max_eq_left (by omega)]; exact judge_new_n c n t h hkb hno hl ht (by omega)
end Go.Proofs.Ytnoepnbgnlolbaa

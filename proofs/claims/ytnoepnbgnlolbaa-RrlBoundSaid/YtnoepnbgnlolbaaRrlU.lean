/- Layer 19: Judge, of a key that is not looked after, where no key more is borne: one goes for it. -/
import Derived.Test.YtnoepnbgnlolbaaRrlT
import Derived.Deep.RegionLaw
import Derived.RegionTactic
import Derived.BigRegion
namespace Go.Proofs.Ytnoepnbgnlolbaa
open Go.BK Go.RowKit Go.Maps
set_option linter.unusedVariables false
set_option linter.unusedSimpArgs false
set_option maxHeartbeats 4000000 in
set_option maxRecDepth 100000 in
theorem judge_evict_t {w : World} {g mb : Nat} {A : Option Addr} {cc : Nat} {p : Par} {now : Int} {P : List Row} (c : Int) (n : ByteArray) (t : Int) (h : LimB w g mb A cc p now P) (hkb : wfK c n) (hno : ∀ r ∈ P, ¬ r.is c n) (hl : (P.length : Int) = p.most) {i0 : Nat} (hG : goesK p t P P.length = some i0) (ht : 0 ≤ t ∧ t ≤ 1099511627776) (hle : now < t) :
    Calls Try.prog 9 #[.pointer (some ⟨g, 0, none⟩), .int .i64 c, .string n, .int .i64 t] w fun e w' => ∃ P1 r P2, P = P1 ++ r :: P2 ∧ P1.length = i0 ∧ JudgeN w w' e g mb A p t (P1 ++ P2) c n := by
  obtain ⟨hp1, hp2, hp3, hp4, hp5, hp6, hp7, hp8⟩ := h.2.2.2.2.1
  obtain ⟨in0, hi, hz0, hz1, hz2⟩ := info_parts info_key
  have hn0 := h.2.2.2.2.2.1
  have hn1 := h.2.2.2.2.2.2.1
  obtain ⟨hrc, hrn⟩ := id hkb
  obtain ⟨c0, _, _, _, c4, _, _, cf⟩ := h.cells
  obtain ⟨ht0, ht1⟩ := ht
  have hltP := h.lt
  have L1 := h.now' t ⟨by omega, by omega⟩
  have s1 := set_shy g 4 (.int .i64 t) w
  have q1 : (p.most == 0) = false := by simp; omega
  have L2 := L1.ext (ext_alloc _ (.cells #[.int .i64 c, .string n] 46))
  have s2 := s1.ext (ext_alloc _ (.cells #[.int .i64 c, .string n] 46))
  have KB := Blk.new (w.setCell ⟨g, 4, none⟩ (.int .i64 t)) 46 #[.int .i64 c, .string n]
  rw [show (w.setCell ⟨g, 4, none⟩ (.int .i64 t)).heap.size = w.heap.size from by simp [World.setCell]] at KB
  have hszA : ((w.setCell ⟨g, 4, none⟩ (.int .i64 t)).alloc (.cells #[.int .i64 c, .string n] 46)).heap.size = w.heap.size + 1 := by simp [World.setCell]
  clear h L1 s1
  have q2 : decide ((255 : Int) < (n.size : Int)) = false := by simp; omega
  have q3 : decide (t < 0) = false := by simp; omega
  have q4 : decide ((1099511627776 : Int) < t) = false := by simp; omega
  have hmx : max now t = t := by omega
  go_enter Try.func9, Try.ntmps9
  go_wp2_with fail
  generalize (w.setCell ⟨g, 4, none⟩ (.int .i64 t)).alloc (.cells #[.int .i64 c, .string n] 46) = wA at L2 s2 KB hszA ⊢
  have hlk : ∀ nq, (Instr.lookup 24 (.map (some mb)) (.agg #[.int .i64 c, .string n]) true).run Try.prog (wA.drewN nq) = .ok (.tuple #[.pointer none, .bool false]) (wA.drewN nq) := by
    intro nq
    have hl := (L2.2.1.ext (ext_drewN wA nq)).look (t := 24) keyed Try.underlying24 (zero_ptr _) (kl_key hkb) true
    rw [tab_no L2.2.2.2.2.2.2.2.2.1 hkb hno] at hl
    exact hl
  have hrm := hid (fun nq => room_full (L2.ext (ext_drewN wA nq)) hl)
  have HG := hid hG
  clear hG
  have HL := hid hl
  have HNO := hid hno
  clear hl hno
  clear c0 c4 cf hmx
  obtain ⟨d0, d1, d2, d3, d4, d5, d6, df⟩ := L2.cells
  obtain ⟨e0, e1, ef⟩ := KB.two
  have L2 := hid L2
  have s2 := hid s2
  have KB := hid KB
  go_quiet (fail)
  go_wp2_with fail
  refine (hrm.out _).mono ?_
  intro e W2 hr2
  rw [HG.out] at hr2
  obtain ⟨rfl, P1, r, P2, hP, hP1, hLQ, sQ⟩ := hr2
  have HP := hid (And.intro hP hP1)
  obtain ⟨Q, hQ⟩ : ∃ Q, Q = P1 ++ P2 := ⟨_, rfl⟩
  rw [← hQ] at hLQ
  have HQ := hid hQ
  have hnoQ : ∀ r ∈ Q, ¬ r.is c n := fun s hs => HNO.out s (by rw [hP]; rw [hQ] at hs; rcases List.mem_append.1 hs with hs | hs <;> simp [hs])
  have hlQ : (Q.length : Int) < p.most := by rw [← HL.out, hP, hQ]; simp; omega
  have h3 : (P.length : Int) = p.most := HL.out
  have hlm : p.most ≤ 1024 := hp2
  have KQ : Blk W2 w.heap.size 46 #[.int .i64 c, .string n] := (sQ.block _ (by rw [show (wA.drewN nq).heap.size = w.heap.size + 1 from hszA]; omega) (fun e => by
    rcases e with e | e | e
    · have := hltP _ (.inl rfl); omega
    · have := hltP _ (.inr (.inl rfl)); omega
    · have := hltP _ (.inr (.inr (.inl e))); omega)).trans (KB.out.drewN nq)
  have sz2 : w.heap.size + 1 ≤ W2.heap.size := by have := sQ.size; rw [show (wA.drewN nq).heap.size = w.heap.size + 1 from hszA] at this; exact this
  obtain ⟨T, hT⟩ : ∃ T, T = W2.heap.size := ⟨_, rfl⟩
  have szT : w.heap.size + 1 ≤ T := by rw [hT]; exact sz2
  have sQ : Shy (fun k => k = g ∨ k = mb ∨ blk A = some k) wA W2 := Shy.trans (shy_drewN _ _) sQ fun _ _ h => h
  have sQ := hid sQ
  clear hP hP1 hQ d0 d1 d2 d3 d4 d5 d6 df e0 e1 ef hlk h3
  obtain ⟨d0, d1, d2, d3, d4, d5, d6, df⟩ := hLQ.cells
  obtain ⟨e0, e1, ef⟩ := KQ.two
  have LQ := hid hLQ
  have HKQ := hid KQ
  clear hLQ KQ
  go_wp2_with fail
  have hL3 := (LQ.out).ext (ext_alloc _ (.cells #[.int .i64 t, .int .i64 0] 50))
  have hK3 := Blk.new W2 50 #[.int .i64 t, .int .i64 0]
  have hKB3 := HKQ.out.alloc (.cells #[.int .i64 t, .int .i64 0] 50)
  rw [← hT] at hK3
  have hsz3 : (W2.alloc (.cells #[.int .i64 t, .int .i64 0] 50)).heap.size = T + 1 := by
    simp [hT]
  have x3 : Ext W2 (W2.alloc (.cells #[.int .i64 t, .int .i64 0] 50)) := ext_alloc _ _
  generalize W2.alloc (.cells #[.int .i64 t, .int .i64 0] 50) = W3 at hL3 hK3 hKB3 hsz3 x3 ⊢
  rw [← hT]
  have HT := hid hT
  clear hT
  obtain ⟨w4, hup, M4, t4⟩ := (hL3.2.1.ext (ext_drew W3)).store (t := 24) keyed Try.underlying24 (by unfold maxLen; omega) (kl_key hkb) (.pointer (some ⟨T, 0, none⟩))
  have t4 := t4.grown
  unfold kv at hup
  rw [tab_no hL3.2.2.2.2.2.2.2.2.1 hkb hnoQ] at M4
  simp only [Option.isSome_none, Bool.false_eq_true, if_false] at M4
  clear d0 d1 d2 d3 d4 d5 d6 df e0 e1 ef
  obtain ⟨_, _, _, _, _, d5, _, df⟩ := hL3.cells
  obtain ⟨e0, e1, ef⟩ := hKB3.two
  have hgm := hL3.gm
  have hmA := hL3.mA
  have hgA := hL3.gA
  have hM4 := hid M4
  clear M4
  have hmk : w.heap.size ≠ mb := blk_ne_map hKB3 hL3.2.1
  have hTA := blk_ne_own hK3 hL3.2.2.1 (by decide)
  have hTg : T ≠ g := fun e => blk_ne hK3 hL3.1 (by decide) e
  have hmt : T ≠ mb := blk_ne_map hK3 hL3.2.1
  have G4 := hid ((hL3.1.ext (ext_drew W3)).grown t4 (fun e => hgm (by injection e)))
  have KB4 := hid ((hKB3.ext (ext_drew W3)).grown t4 (fun e => hmk (by injection e)))
  have KT4 := hid ((hK3.ext (ext_drew W3)).grown t4 (fun e => hmt (by injection e)))
  have ow4 := hid ((hL3.2.2.1.ext (ext_drew W3)).grown t4 (fun b hb e => hmA (by rw [hb]; exact e)))
  have s4 : Shy (fun k => k = mb) W3 w4 := Shy.trans (Shy.of_ext (ext_drew W3)) (shy_of_grown t4) fun k _ hk => by injection hk with hk; exact hk.symm
  have s4 := hid s4
  have hL3 := hid hL3
  have hK3 := hid hK3
  have hKB3 := hid hKB3
  have x3 := hid x3
  clear t4
  go_region
  have d5' := G4.out.cell 6
  have d4' := G4.out.frozen
  obtain ⟨e0', e1', _⟩ := KB4.out.two
  have dd5 := (G4.out.alloc (.cells #[.int .i64 c, .string n] 46)).cell 6
  have nn1 := World.new_ne w4 _ d5'
  have nn2 := World.new_ne w4 _ e0'
  have nn3 := World.new_ne w4 _ e1'
  have nn4 : g ≠ w4.heap.size := Nat.ne_of_lt G4.out.lt
  have nn5 : w.heap.size ≠ w4.heap.size := Nat.ne_of_lt KB4.out.lt
  clear d5 df e0 e1 ef hup
  go_wp2_with fail
  go_region_law ((refine step_append_g rfl (.tmp 77) (.tmp 79) 25 rfl 0 46 in0 (.agg #[.int .i64 0, .string ⟨#[]⟩]) 2 24 Try.underlying25 hi hz0 hz1 hz2 rfl (by decide) (by simp [Value.cells, isOne, Value.oneCell']) (fun _ h => h) rfl (OwnG.ext ow4.out (ext_trans (ext_alloc _ _) (ext_drew _))) rfl ((rd_pair w4 _ _ _ _ rfl).ext (ext_drew _)) (by simp [isOne, Value.oneCell']) (by omega) (by unfold maxLen; omega) (Nat.zero_le _) ?_; intro A5 c5 w5 o5 g5 n5; have E5 : Ext w4 ((w4.alloc (.cells #[.int .i64 c, .string n] 46)).drew) := ext_trans (ext_alloc _ _) (ext_drew _); have G5 := (G4.out.ext (ext_trans (ext_alloc w4 (.cells #[.int .i64 c, .string n] 46)) (ext_drew _))).grown g5 (fun e => hgA e.symm); have d6 := G5.cell 6; have f6 := G5.frozen))
  all_goals
    have L6 : LimB (w5.setCell ⟨g, 6, none⟩ (.slice A5 (Q.length + 1) c5)) g mb A5 c5 p t (Q ++ [(⟨c, n, t, 0⟩, T)]) := by
      have hsz : ((w4.alloc (.cells #[.int .i64 c, .string n] 46)).drew).heap.size = w4.heap.size + 1 := by simp
      refine LQ.out.add c n T hkb hnoQ hlQ (by rw [HT.out]; exact Nat.le_refl _) ?_ (by simpa using G5.set_ 6 (.slice A5 (Q.length + 1) c5)) ?_ ?_ ?_
      · exact Shy.trans (Shy.trans (Shy.trans (Shy.of_ext x3.out) s4.out fun k _ h => .inr (.inl h)) (Shy.trans (Shy.of_ext (U := fun k => blk A = some k) E5) (shy_of_grown g5) fun _ _ h => h) fun k _ h => .inr (.inr h)) (set_shy g 6 _ _) fun k _ h => .inl h
      · exact (((hM4.out.ext E5).kept g5 (fun e => hmA e.symm))).setCell (by simpa using Ne.symm hgm) _
      · refine (set_shy g 6 _ w5).ownG o5 (fun k hk e => ?_)
        subst e
        have hglt := G4.out.lt
        rcases n5 with rfl | rfl
        · exact hgA hk
        · simp at hk; omega
      · exact ((KT4.out.ext E5).grown g5 (fun e => hTA e.symm)).far (by simpa using hTg) _
    have S6 : Shy (fun k => k = g ∨ k = mb ∨ blk A = some k) w (w5.setCell ⟨g, 6, none⟩ (.slice A5 (Q.length + 1) c5)) := by
      refine Shy.trans (Shy.trans (s2.out.mono fun k _ h => .inl h) (V := fun k => k = g ∨ k = mb ∨ blk A = some k) sQ.out fun _ _ h => h) (V := fun k => k = g ∨ k = mb ∨ blk A = some k) ?_ fun _ _ h => h
      exact Shy.trans (Shy.trans (Shy.trans (Shy.of_ext x3.out) s4.out fun k _ h => .inr (.inl h)) (Shy.trans (Shy.of_ext (U := fun k => blk A = some k) E5) (shy_of_grown g5) fun _ _ h => h) fun k _ h => .inr (.inr h)) (set_shy g 6 _ _) fun k _ h => .inl h
    have hA5 : ∀ k, blk A5 = some k → blk A = some k ∨ w.heap.size ≤ k := by
      intro k hk
      rcases n5 with rfl | rfl
      · exact .inl hk
      · simp at hk
        have := s4.out.size
        exact .inr (by omega)
    clear d5' d4' e0' e1' dd5 nn1 nn2 nn3 nn4 nn5 d6 f6 o5 g5 n5 G5 E5
    generalize w5.setCell ⟨g, 6, none⟩ (.slice A5 (Q.length + 1) c5) = w6 at L6 S6 ⊢
    have L6 := hid L6
    have S6 := hid S6
    have hA5 := hid hA5
    have KT := L6.out.2.2.2.1 (⟨c, n, t, 0⟩, T) (by simp)
    obtain ⟨t0, t1, tf⟩ := KT.two
    obtain ⟨_, _, _, _, _, _, _, df⟩ := L6.out.cells
    have hO : overB p t t = false := by unfold overB; simp; omega
    have hov : ∀ nq, Calls Try.prog 16 #[.pointer (some ⟨g, 0, none⟩), .pointer (some ⟨T, 0, none⟩)] (w6.drewN nq) fun e w' => e = .returned (.bool false) ∧ ∃ n, w' = (w6.drewN nq).drewN n := by
      intro nq
      have := over_any (L6.out.ext (ext_drewN w6 nq)) (KT.ext (ext_drewN w6 nq)) ⟨by simp only; omega, by simp only; omega⟩
      simp only [hO] at this
      exact this
    have hov := hid hov
    have hlt := hid L6.out.lt
    have hlim := hid L6.out.cells
    have KT := hid KT
    have hgt' : g ≠ T := Ne.symm hTg
    have hend : ∀ (W : World), Shy (fun j => j = T) w6 W → Blk W (T) 50 #[.int .i64 t, .int .i64 1] → ∀ e, e = .returned (.int .i64 (codeS p 1)) → ∃ P1 r P2, P = P1 ++ r :: P2 ∧ P1.length = i0 ∧ JudgeN w W e g mb A p t (P1 ++ P2) c n := by
      intro W hs hb e he
      have := L6.out.turn (P1 := Q) (P2 := []) (r := (⟨c, n, t, 0⟩, T)) t 1 ⟨by omega, by omega⟩ ⟨by decide, by decide⟩ hs hb
      have hlast : Shy (fun k => k = g ∨ k = mb ∨ blk A = some k) w W :=
        ⟨hs.os.trans S6.out.os, hs.tape.trans S6.out.tape, hs.output.trans S6.out.output, Nat.le_trans S6.out.size hs.size, fun k hk hn => (hs.block k (Nat.lt_of_lt_of_le hk S6.out.size) (fun e => by have e : k = T := e; omega)).trans (S6.out.block k hk hn)⟩
      refine ⟨P1, r, P2, HP.out.1, HP.out.2, ?_⟩
      rw [← HQ.out]
      exact ⟨he, A5, c5, T, this, by omega, hA5.out, hlast⟩
    have hend := hid hend
    clear hO L2 s2 KB hrm LQ HKQ sQ HG HL HNO hltP hnoQ G4 KB4 KT4 ow4 s4 hL3 hK3 hKB3 x3 hM4 hszA hsz3 hTA hmt hmk hgm hmA hgA
    rcases (show (1 : Int) - p.limit ≤ 0 ∨ (0 < 1 - p.limit ∧ p.slip = 0) ∨ (0 < 1 - p.limit ∧ 0 < p.slip ∧ (1 - p.limit) % p.slip = 0) ∨ (0 < 1 - p.limit ∧ 0 < p.slip ∧ ¬ (1 - p.limit) % p.slip = 0) by omega) with hA | ⟨hA, hB⟩ | ⟨hA, hB, hC⟩ | ⟨hA, hB, hC⟩
    · have hcode := hid (show codeS p 1 = 0 by unfold codeS; rw [if_pos hA])
      have y1 : decide (0 < 1 - p.limit) = false := by simp; omega
      go_wp2_with fail
      refine (hov.out 0).mono ?_
      rintro e _ ⟨rfl, nq2, rfl⟩
      go_wp2_with fail
      have hB2 : Blk ((w6.drewN nq2).setCell ⟨T, 1, none⟩ (.int .i64 1)) (T) 50 #[.int .i64 t, .int .i64 1] := (KT.out.drewN nq2).set_ 1 (.int .i64 1)
      have hS2 : Shy (fun j => j = T) w6 ((w6.drewN nq2).setCell ⟨T, 1, none⟩ (.int .i64 1)) := Shy.trans (shy_drewN (U := fun j => j = T) _ _) (set_shy (T) 1 _ _) fun _ _ h => h
      generalize ((w6.drewN nq2).setCell ⟨T, 1, none⟩ (.int .i64 1)) = wB at hB2 hS2 ⊢
      clear t0 t1 tf df
      obtain ⟨_, d1, _, d3, _, _, _, df⟩ := hlim.out
      have hg' : ∀ i, wB.cell? ⟨g, i, none⟩ = w6.cell? ⟨g, i, none⟩ := fun i => World.cell?_of_block (hS2.block g (hlt.out g (.inl rfl)) hgt')
      have z1 : wB.cell? ⟨g, 1, none⟩ = some (.int .i64 p.limit) := (hg' 1).trans d1
      have z3 : wB.cell? ⟨g, 3, none⟩ = some (.int .i64 p.slip) := (hg' 3).trans d3
      have z4 : wB.cell? ⟨T, 1, none⟩ = some (.int .i64 1) := hB2.cell 1
      have hB2 := hid hB2
      have hS2 := hid hS2
      clear hg' d1 d3 df
      go_quiet (fail)
      go_wp2_with fail
      go_ret
      exact hend.out _ (Shy.trans hS2.out (shy_drewN (U := fun j => j = T) _ _) fun _ _ h => h) (hB2.out.drewN _) _ (by rw [hcode.out]; rfl)
    · have hcode := hid (show codeS p 1 = 2 by unfold codeS; rw [if_neg (by omega), if_neg (by omega)])
      go_wp2_with fail
      refine (hov.out 0).mono ?_
      rintro e _ ⟨rfl, nq2, rfl⟩
      go_wp2_with fail
      have hB2 : Blk ((w6.drewN nq2).setCell ⟨T, 1, none⟩ (.int .i64 1)) (T) 50 #[.int .i64 t, .int .i64 1] := (KT.out.drewN nq2).set_ 1 (.int .i64 1)
      have hS2 : Shy (fun j => j = T) w6 ((w6.drewN nq2).setCell ⟨T, 1, none⟩ (.int .i64 1)) := Shy.trans (shy_drewN (U := fun j => j = T) _ _) (set_shy (T) 1 _ _) fun _ _ h => h
      generalize ((w6.drewN nq2).setCell ⟨T, 1, none⟩ (.int .i64 1)) = wB at hB2 hS2 ⊢
      clear t0 t1 tf df
      obtain ⟨_, d1, _, d3, _, _, _, df⟩ := hlim.out
      have hg' : ∀ i, wB.cell? ⟨g, i, none⟩ = w6.cell? ⟨g, i, none⟩ := fun i => World.cell?_of_block (hS2.block g (hlt.out g (.inl rfl)) hgt')
      have z1 : wB.cell? ⟨g, 1, none⟩ = some (.int .i64 p.limit) := (hg' 1).trans d1
      have z3 : wB.cell? ⟨g, 3, none⟩ = some (.int .i64 p.slip) := (hg' 3).trans d3
      have z4 : wB.cell? ⟨T, 1, none⟩ = some (.int .i64 1) := hB2.cell 1
      have hB2 := hid hB2
      have hS2 := hid hS2
      clear hg' d1 d3 df
      go_quiet (fail)
      go_wp2_with fail
      go_ret
      exact hend.out _ (Shy.trans hS2.out (shy_drewN (U := fun j => j = T) _ _) fun _ _ h => h) (hB2.out.drewN _) _ (by rw [hcode.out]; rfl)
    · have hcode := hid (show codeS p 1 = 1 by unfold codeS; rw [if_neg (by omega), if_pos ⟨hB, hC⟩])
      have y3 : ((1 - p.limit) % p.slip == 0) = true := by simpa using hC
      clear hC
      go_wp2_with fail
      refine (hov.out 0).mono ?_
      rintro e _ ⟨rfl, nq2, rfl⟩
      go_wp2_with fail
      have hB2 : Blk ((w6.drewN nq2).setCell ⟨T, 1, none⟩ (.int .i64 1)) (T) 50 #[.int .i64 t, .int .i64 1] := (KT.out.drewN nq2).set_ 1 (.int .i64 1)
      have hS2 : Shy (fun j => j = T) w6 ((w6.drewN nq2).setCell ⟨T, 1, none⟩ (.int .i64 1)) := Shy.trans (shy_drewN (U := fun j => j = T) _ _) (set_shy (T) 1 _ _) fun _ _ h => h
      generalize ((w6.drewN nq2).setCell ⟨T, 1, none⟩ (.int .i64 1)) = wB at hB2 hS2 ⊢
      clear t0 t1 tf df
      obtain ⟨_, d1, _, d3, _, _, _, df⟩ := hlim.out
      have hg' : ∀ i, wB.cell? ⟨g, i, none⟩ = w6.cell? ⟨g, i, none⟩ := fun i => World.cell?_of_block (hS2.block g (hlt.out g (.inl rfl)) hgt')
      have z1 : wB.cell? ⟨g, 1, none⟩ = some (.int .i64 p.limit) := (hg' 1).trans d1
      have z3 : wB.cell? ⟨g, 3, none⟩ = some (.int .i64 p.slip) := (hg' 3).trans d3
      have z4 : wB.cell? ⟨T, 1, none⟩ = some (.int .i64 1) := hB2.cell 1
      have hB2 := hid hB2
      have hS2 := hid hS2
      clear hg' d1 d3 df
      go_quiet (fail)
      go_wp2_with fail
      go_ret
      exact hend.out _ (Shy.trans hS2.out (shy_drewN (U := fun j => j = T) _ _) fun _ _ h => h) (hB2.out.drewN _) _ (by rw [hcode.out]; rfl)
    · have hcode := hid (show codeS p 1 = 2 by unfold codeS; rw [if_neg (by omega), if_neg (fun h => hC h.2)])
      have y3 : ((1 - p.limit) % p.slip == 0) = false := by simpa using hC
      clear hC
      go_wp2_with fail
      refine (hov.out 0).mono ?_
      rintro e _ ⟨rfl, nq2, rfl⟩
      go_wp2_with fail
      have hB2 : Blk ((w6.drewN nq2).setCell ⟨T, 1, none⟩ (.int .i64 1)) (T) 50 #[.int .i64 t, .int .i64 1] := (KT.out.drewN nq2).set_ 1 (.int .i64 1)
      have hS2 : Shy (fun j => j = T) w6 ((w6.drewN nq2).setCell ⟨T, 1, none⟩ (.int .i64 1)) := Shy.trans (shy_drewN (U := fun j => j = T) _ _) (set_shy (T) 1 _ _) fun _ _ h => h
      generalize ((w6.drewN nq2).setCell ⟨T, 1, none⟩ (.int .i64 1)) = wB at hB2 hS2 ⊢
      clear t0 t1 tf df
      obtain ⟨_, d1, _, d3, _, _, _, df⟩ := hlim.out
      have hg' : ∀ i, wB.cell? ⟨g, i, none⟩ = w6.cell? ⟨g, i, none⟩ := fun i => World.cell?_of_block (hS2.block g (hlt.out g (.inl rfl)) hgt')
      have z1 : wB.cell? ⟨g, 1, none⟩ = some (.int .i64 p.limit) := (hg' 1).trans d1
      have z3 : wB.cell? ⟨g, 3, none⟩ = some (.int .i64 p.slip) := (hg' 3).trans d3
      have z4 : wB.cell? ⟨T, 1, none⟩ = some (.int .i64 1) := hB2.cell 1
      have hB2 := hid hB2
      have hS2 := hid hS2
      clear hg' d1 d3 df
      go_quiet (fail)
      go_wp2_with fail
      go_ret
      exact hend.out _ (Shy.trans hS2.out (shy_drewN (U := fun j => j = T) _ _) fun _ _ h => h) (hB2.out.drewN _) _ (by rw [hcode.out]; rfl)
set_option maxHeartbeats 4000000 in
set_option maxRecDepth 100000 in
theorem judge_evict_n {w : World} {g mb : Nat} {A : Option Addr} {cc : Nat} {p : Par} {now : Int} {P : List Row} (c : Int) (n : ByteArray) (t : Int) (h : LimB w g mb A cc p now P) (hkb : wfK c n) (hno : ∀ r ∈ P, ¬ r.is c n) (hl : (P.length : Int) = p.most) {i0 : Nat} (hG : goesK p now P P.length = some i0) (ht : 0 ≤ t ∧ t ≤ 1099511627776) (hle : t ≤ now) :
    Calls Try.prog 9 #[.pointer (some ⟨g, 0, none⟩), .int .i64 c, .string n, .int .i64 t] w fun e w' => ∃ P1 r P2, P = P1 ++ r :: P2 ∧ P1.length = i0 ∧ JudgeN w w' e g mb A p now (P1 ++ P2) c n := by
  obtain ⟨hp1, hp2, hp3, hp4, hp5, hp6, hp7, hp8⟩ := h.2.2.2.2.1
  obtain ⟨in0, hi, hz0, hz1, hz2⟩ := info_parts info_key
  have hn0 := h.2.2.2.2.2.1
  have hn1 := h.2.2.2.2.2.2.1
  obtain ⟨hrc, hrn⟩ := id hkb
  obtain ⟨c0, _, _, _, c4, _, _, cf⟩ := h.cells
  obtain ⟨ht0, ht1⟩ := ht
  have hltP := h.lt
  have L1 := h.now' now ⟨by omega, by omega⟩
  have s1 := set_shy g 4 (.int .i64 now) w
  have q1 : (p.most == 0) = false := by simp; omega
  have L2 := L1.ext (ext_alloc _ (.cells #[.int .i64 c, .string n] 46))
  have s2 := s1.ext (ext_alloc _ (.cells #[.int .i64 c, .string n] 46))
  have KB := Blk.new (w.setCell ⟨g, 4, none⟩ (.int .i64 now)) 46 #[.int .i64 c, .string n]
  rw [show (w.setCell ⟨g, 4, none⟩ (.int .i64 now)).heap.size = w.heap.size from by simp [World.setCell]] at KB
  have hszA : ((w.setCell ⟨g, 4, none⟩ (.int .i64 now)).alloc (.cells #[.int .i64 c, .string n] 46)).heap.size = w.heap.size + 1 := by simp [World.setCell]
  clear h L1 s1
  have q2 : decide ((255 : Int) < (n.size : Int)) = false := by simp; omega
  have q3 : decide (t < 0) = false := by simp; omega
  have q4 : decide ((1099511627776 : Int) < t) = false := by simp; omega
  have hmx : max now t = now := by omega
  go_enter Try.func9, Try.ntmps9
  go_wp2_with fail
  generalize (w.setCell ⟨g, 4, none⟩ (.int .i64 now)).alloc (.cells #[.int .i64 c, .string n] 46) = wA at L2 s2 KB hszA ⊢
  have hlk : ∀ nq, (Instr.lookup 24 (.map (some mb)) (.agg #[.int .i64 c, .string n]) true).run Try.prog (wA.drewN nq) = .ok (.tuple #[.pointer none, .bool false]) (wA.drewN nq) := by
    intro nq
    have hl := (L2.2.1.ext (ext_drewN wA nq)).look (t := 24) keyed Try.underlying24 (zero_ptr _) (kl_key hkb) true
    rw [tab_no L2.2.2.2.2.2.2.2.2.1 hkb hno] at hl
    exact hl
  have hrm := hid (fun nq => room_full (L2.ext (ext_drewN wA nq)) hl)
  have HG := hid hG
  clear hG
  have HL := hid hl
  have HNO := hid hno
  clear hl hno
  clear c0 c4 cf hmx
  obtain ⟨d0, d1, d2, d3, d4, d5, d6, df⟩ := L2.cells
  obtain ⟨e0, e1, ef⟩ := KB.two
  have L2 := hid L2
  have s2 := hid s2
  have KB := hid KB
  go_quiet (fail)
  go_wp2_with fail
  refine (hrm.out _).mono ?_
  intro e W2 hr2
  rw [HG.out] at hr2
  obtain ⟨rfl, P1, r, P2, hP, hP1, hLQ, sQ⟩ := hr2
  have HP := hid (And.intro hP hP1)
  obtain ⟨Q, hQ⟩ : ∃ Q, Q = P1 ++ P2 := ⟨_, rfl⟩
  rw [← hQ] at hLQ
  have HQ := hid hQ
  have hnoQ : ∀ r ∈ Q, ¬ r.is c n := fun s hs => HNO.out s (by rw [hP]; rw [hQ] at hs; rcases List.mem_append.1 hs with hs | hs <;> simp [hs])
  have hlQ : (Q.length : Int) < p.most := by rw [← HL.out, hP, hQ]; simp; omega
  have h3 : (P.length : Int) = p.most := HL.out
  have hlm : p.most ≤ 1024 := hp2
  have KQ : Blk W2 w.heap.size 46 #[.int .i64 c, .string n] := (sQ.block _ (by rw [show (wA.drewN nq).heap.size = w.heap.size + 1 from hszA]; omega) (fun e => by
    rcases e with e | e | e
    · have := hltP _ (.inl rfl); omega
    · have := hltP _ (.inr (.inl rfl)); omega
    · have := hltP _ (.inr (.inr (.inl e))); omega)).trans (KB.out.drewN nq)
  have sz2 : w.heap.size + 1 ≤ W2.heap.size := by have := sQ.size; rw [show (wA.drewN nq).heap.size = w.heap.size + 1 from hszA] at this; exact this
  obtain ⟨T, hT⟩ : ∃ T, T = W2.heap.size := ⟨_, rfl⟩
  have szT : w.heap.size + 1 ≤ T := by rw [hT]; exact sz2
  have sQ : Shy (fun k => k = g ∨ k = mb ∨ blk A = some k) wA W2 := Shy.trans (shy_drewN _ _) sQ fun _ _ h => h
  have sQ := hid sQ
  clear hP hP1 hQ d0 d1 d2 d3 d4 d5 d6 df e0 e1 ef hlk h3
  obtain ⟨d0, d1, d2, d3, d4, d5, d6, df⟩ := hLQ.cells
  obtain ⟨e0, e1, ef⟩ := KQ.two
  have LQ := hid hLQ
  have HKQ := hid KQ
  clear hLQ KQ
  go_wp2_with fail
  have hL3 := (LQ.out).ext (ext_alloc _ (.cells #[.int .i64 now, .int .i64 0] 50))
  have hK3 := Blk.new W2 50 #[.int .i64 now, .int .i64 0]
  have hKB3 := HKQ.out.alloc (.cells #[.int .i64 now, .int .i64 0] 50)
  rw [← hT] at hK3
  have hsz3 : (W2.alloc (.cells #[.int .i64 now, .int .i64 0] 50)).heap.size = T + 1 := by
    simp [hT]
  have x3 : Ext W2 (W2.alloc (.cells #[.int .i64 now, .int .i64 0] 50)) := ext_alloc _ _
  generalize W2.alloc (.cells #[.int .i64 now, .int .i64 0] 50) = W3 at hL3 hK3 hKB3 hsz3 x3 ⊢
  rw [← hT]
  have HT := hid hT
  clear hT
  obtain ⟨w4, hup, M4, t4⟩ := (hL3.2.1.ext (ext_drew W3)).store (t := 24) keyed Try.underlying24 (by unfold maxLen; omega) (kl_key hkb) (.pointer (some ⟨T, 0, none⟩))
  have t4 := t4.grown
  unfold kv at hup
  rw [tab_no hL3.2.2.2.2.2.2.2.2.1 hkb hnoQ] at M4
  simp only [Option.isSome_none, Bool.false_eq_true, if_false] at M4
  clear d0 d1 d2 d3 d4 d5 d6 df e0 e1 ef
  obtain ⟨_, _, _, _, _, d5, _, df⟩ := hL3.cells
  obtain ⟨e0, e1, ef⟩ := hKB3.two
  have hgm := hL3.gm
  have hmA := hL3.mA
  have hgA := hL3.gA
  have hM4 := hid M4
  clear M4
  have hmk : w.heap.size ≠ mb := blk_ne_map hKB3 hL3.2.1
  have hTA := blk_ne_own hK3 hL3.2.2.1 (by decide)
  have hTg : T ≠ g := fun e => blk_ne hK3 hL3.1 (by decide) e
  have hmt : T ≠ mb := blk_ne_map hK3 hL3.2.1
  have G4 := hid ((hL3.1.ext (ext_drew W3)).grown t4 (fun e => hgm (by injection e)))
  have KB4 := hid ((hKB3.ext (ext_drew W3)).grown t4 (fun e => hmk (by injection e)))
  have KT4 := hid ((hK3.ext (ext_drew W3)).grown t4 (fun e => hmt (by injection e)))
  have ow4 := hid ((hL3.2.2.1.ext (ext_drew W3)).grown t4 (fun b hb e => hmA (by rw [hb]; exact e)))
  have s4 : Shy (fun k => k = mb) W3 w4 := Shy.trans (Shy.of_ext (ext_drew W3)) (shy_of_grown t4) fun k _ hk => by injection hk with hk; exact hk.symm
  have s4 := hid s4
  have hL3 := hid hL3
  have hK3 := hid hK3
  have hKB3 := hid hKB3
  have x3 := hid x3
  clear t4
  go_region
  have d5' := G4.out.cell 6
  have d4' := G4.out.frozen
  obtain ⟨e0', e1', _⟩ := KB4.out.two
  have dd5 := (G4.out.alloc (.cells #[.int .i64 c, .string n] 46)).cell 6
  have nn1 := World.new_ne w4 _ d5'
  have nn2 := World.new_ne w4 _ e0'
  have nn3 := World.new_ne w4 _ e1'
  have nn4 : g ≠ w4.heap.size := Nat.ne_of_lt G4.out.lt
  have nn5 : w.heap.size ≠ w4.heap.size := Nat.ne_of_lt KB4.out.lt
  clear d5 df e0 e1 ef hup
  go_wp2_with fail
  go_region_law ((refine step_append_g rfl (.tmp 77) (.tmp 79) 25 rfl 0 46 in0 (.agg #[.int .i64 0, .string ⟨#[]⟩]) 2 24 Try.underlying25 hi hz0 hz1 hz2 rfl (by decide) (by simp [Value.cells, isOne, Value.oneCell']) (fun _ h => h) rfl (OwnG.ext ow4.out (ext_trans (ext_alloc _ _) (ext_drew _))) rfl ((rd_pair w4 _ _ _ _ rfl).ext (ext_drew _)) (by simp [isOne, Value.oneCell']) (by omega) (by unfold maxLen; omega) (Nat.zero_le _) ?_; intro A5 c5 w5 o5 g5 n5; have E5 : Ext w4 ((w4.alloc (.cells #[.int .i64 c, .string n] 46)).drew) := ext_trans (ext_alloc _ _) (ext_drew _); have G5 := (G4.out.ext (ext_trans (ext_alloc w4 (.cells #[.int .i64 c, .string n] 46)) (ext_drew _))).grown g5 (fun e => hgA e.symm); have d6 := G5.cell 6; have f6 := G5.frozen))
  all_goals
    have L6 : LimB (w5.setCell ⟨g, 6, none⟩ (.slice A5 (Q.length + 1) c5)) g mb A5 c5 p now (Q ++ [(⟨c, n, now, 0⟩, T)]) := by
      have hsz : ((w4.alloc (.cells #[.int .i64 c, .string n] 46)).drew).heap.size = w4.heap.size + 1 := by simp
      refine LQ.out.add c n T hkb hnoQ hlQ (by rw [HT.out]; exact Nat.le_refl _) ?_ (by simpa using G5.set_ 6 (.slice A5 (Q.length + 1) c5)) ?_ ?_ ?_
      · exact Shy.trans (Shy.trans (Shy.trans (Shy.of_ext x3.out) s4.out fun k _ h => .inr (.inl h)) (Shy.trans (Shy.of_ext (U := fun k => blk A = some k) E5) (shy_of_grown g5) fun _ _ h => h) fun k _ h => .inr (.inr h)) (set_shy g 6 _ _) fun k _ h => .inl h
      · exact (((hM4.out.ext E5).kept g5 (fun e => hmA e.symm))).setCell (by simpa using Ne.symm hgm) _
      · refine (set_shy g 6 _ w5).ownG o5 (fun k hk e => ?_)
        subst e
        have hglt := G4.out.lt
        rcases n5 with rfl | rfl
        · exact hgA hk
        · simp at hk; omega
      · exact ((KT4.out.ext E5).grown g5 (fun e => hTA e.symm)).far (by simpa using hTg) _
    have S6 : Shy (fun k => k = g ∨ k = mb ∨ blk A = some k) w (w5.setCell ⟨g, 6, none⟩ (.slice A5 (Q.length + 1) c5)) := by
      refine Shy.trans (Shy.trans (s2.out.mono fun k _ h => .inl h) (V := fun k => k = g ∨ k = mb ∨ blk A = some k) sQ.out fun _ _ h => h) (V := fun k => k = g ∨ k = mb ∨ blk A = some k) ?_ fun _ _ h => h
      exact Shy.trans (Shy.trans (Shy.trans (Shy.of_ext x3.out) s4.out fun k _ h => .inr (.inl h)) (Shy.trans (Shy.of_ext (U := fun k => blk A = some k) E5) (shy_of_grown g5) fun _ _ h => h) fun k _ h => .inr (.inr h)) (set_shy g 6 _ _) fun k _ h => .inl h
    have hA5 : ∀ k, blk A5 = some k → blk A = some k ∨ w.heap.size ≤ k := by
      intro k hk
      rcases n5 with rfl | rfl
      · exact .inl hk
      · simp at hk
        have := s4.out.size
        exact .inr (by omega)
    clear d5' d4' e0' e1' dd5 nn1 nn2 nn3 nn4 nn5 d6 f6 o5 g5 n5 G5 E5
    generalize w5.setCell ⟨g, 6, none⟩ (.slice A5 (Q.length + 1) c5) = w6 at L6 S6 ⊢
    have L6 := hid L6
    have S6 := hid S6
    have hA5 := hid hA5
    have KT := L6.out.2.2.2.1 (⟨c, n, now, 0⟩, T) (by simp)
    obtain ⟨t0, t1, tf⟩ := KT.two
    obtain ⟨_, _, _, _, _, _, _, df⟩ := L6.out.cells
    have hO : overB p now now = false := by unfold overB; simp; omega
    have hov : ∀ nq, Calls Try.prog 16 #[.pointer (some ⟨g, 0, none⟩), .pointer (some ⟨T, 0, none⟩)] (w6.drewN nq) fun e w' => e = .returned (.bool false) ∧ ∃ n, w' = (w6.drewN nq).drewN n := by
      intro nq
      have := over_any (L6.out.ext (ext_drewN w6 nq)) (KT.ext (ext_drewN w6 nq)) ⟨by simp only; omega, by simp only; omega⟩
      simp only [hO] at this
      exact this
    have hov := hid hov
    have hlt := hid L6.out.lt
    have hlim := hid L6.out.cells
    have KT := hid KT
    have hgt' : g ≠ T := Ne.symm hTg
    have hend : ∀ (W : World), Shy (fun j => j = T) w6 W → Blk W (T) 50 #[.int .i64 now, .int .i64 1] → ∀ e, e = .returned (.int .i64 (codeS p 1)) → ∃ P1 r P2, P = P1 ++ r :: P2 ∧ P1.length = i0 ∧ JudgeN w W e g mb A p now (P1 ++ P2) c n := by
      intro W hs hb e he
      have := L6.out.turn (P1 := Q) (P2 := []) (r := (⟨c, n, now, 0⟩, T)) now 1 ⟨by omega, by omega⟩ ⟨by decide, by decide⟩ hs hb
      have hlast : Shy (fun k => k = g ∨ k = mb ∨ blk A = some k) w W :=
        ⟨hs.os.trans S6.out.os, hs.tape.trans S6.out.tape, hs.output.trans S6.out.output, Nat.le_trans S6.out.size hs.size, fun k hk hn => (hs.block k (Nat.lt_of_lt_of_le hk S6.out.size) (fun e => by have e : k = T := e; omega)).trans (S6.out.block k hk hn)⟩
      refine ⟨P1, r, P2, HP.out.1, HP.out.2, ?_⟩
      rw [← HQ.out]
      exact ⟨he, A5, c5, T, this, by omega, hA5.out, hlast⟩
    have hend := hid hend
    clear hO L2 s2 KB hrm LQ HKQ sQ HG HL HNO hltP hnoQ G4 KB4 KT4 ow4 s4 hL3 hK3 hKB3 x3 hM4 hszA hsz3 hTA hmt hmk hgm hmA hgA
    rcases (show (1 : Int) - p.limit ≤ 0 ∨ (0 < 1 - p.limit ∧ p.slip = 0) ∨ (0 < 1 - p.limit ∧ 0 < p.slip ∧ (1 - p.limit) % p.slip = 0) ∨ (0 < 1 - p.limit ∧ 0 < p.slip ∧ ¬ (1 - p.limit) % p.slip = 0) by omega) with hA | ⟨hA, hB⟩ | ⟨hA, hB, hC⟩ | ⟨hA, hB, hC⟩
    · have hcode := hid (show codeS p 1 = 0 by unfold codeS; rw [if_pos hA])
      have y1 : decide (0 < 1 - p.limit) = false := by simp; omega
      go_wp2_with fail
      refine (hov.out 0).mono ?_
      rintro e _ ⟨rfl, nq2, rfl⟩
      go_wp2_with fail
      have hB2 : Blk ((w6.drewN nq2).setCell ⟨T, 1, none⟩ (.int .i64 1)) (T) 50 #[.int .i64 now, .int .i64 1] := (KT.out.drewN nq2).set_ 1 (.int .i64 1)
      have hS2 : Shy (fun j => j = T) w6 ((w6.drewN nq2).setCell ⟨T, 1, none⟩ (.int .i64 1)) := Shy.trans (shy_drewN (U := fun j => j = T) _ _) (set_shy (T) 1 _ _) fun _ _ h => h
      generalize ((w6.drewN nq2).setCell ⟨T, 1, none⟩ (.int .i64 1)) = wB at hB2 hS2 ⊢
      clear t0 t1 tf df
      obtain ⟨_, d1, _, d3, _, _, _, df⟩ := hlim.out
      have hg' : ∀ i, wB.cell? ⟨g, i, none⟩ = w6.cell? ⟨g, i, none⟩ := fun i => World.cell?_of_block (hS2.block g (hlt.out g (.inl rfl)) hgt')
      have z1 : wB.cell? ⟨g, 1, none⟩ = some (.int .i64 p.limit) := (hg' 1).trans d1
      have z3 : wB.cell? ⟨g, 3, none⟩ = some (.int .i64 p.slip) := (hg' 3).trans d3
      have z4 : wB.cell? ⟨T, 1, none⟩ = some (.int .i64 1) := hB2.cell 1
      have hB2 := hid hB2
      have hS2 := hid hS2
      clear hg' d1 d3 df
      go_quiet (fail)
      go_wp2_with fail
      go_ret
      exact hend.out _ (Shy.trans hS2.out (shy_drewN (U := fun j => j = T) _ _) fun _ _ h => h) (hB2.out.drewN _) _ (by rw [hcode.out]; rfl)
    · have hcode := hid (show codeS p 1 = 2 by unfold codeS; rw [if_neg (by omega), if_neg (by omega)])
      go_wp2_with fail
      refine (hov.out 0).mono ?_
      rintro e _ ⟨rfl, nq2, rfl⟩
      go_wp2_with fail
      have hB2 : Blk ((w6.drewN nq2).setCell ⟨T, 1, none⟩ (.int .i64 1)) (T) 50 #[.int .i64 now, .int .i64 1] := (KT.out.drewN nq2).set_ 1 (.int .i64 1)
      have hS2 : Shy (fun j => j = T) w6 ((w6.drewN nq2).setCell ⟨T, 1, none⟩ (.int .i64 1)) := Shy.trans (shy_drewN (U := fun j => j = T) _ _) (set_shy (T) 1 _ _) fun _ _ h => h
      generalize ((w6.drewN nq2).setCell ⟨T, 1, none⟩ (.int .i64 1)) = wB at hB2 hS2 ⊢
      clear t0 t1 tf df
      obtain ⟨_, d1, _, d3, _, _, _, df⟩ := hlim.out
      have hg' : ∀ i, wB.cell? ⟨g, i, none⟩ = w6.cell? ⟨g, i, none⟩ := fun i => World.cell?_of_block (hS2.block g (hlt.out g (.inl rfl)) hgt')
      have z1 : wB.cell? ⟨g, 1, none⟩ = some (.int .i64 p.limit) := (hg' 1).trans d1
      have z3 : wB.cell? ⟨g, 3, none⟩ = some (.int .i64 p.slip) := (hg' 3).trans d3
      have z4 : wB.cell? ⟨T, 1, none⟩ = some (.int .i64 1) := hB2.cell 1
      have hB2 := hid hB2
      have hS2 := hid hS2
      clear hg' d1 d3 df
      go_quiet (fail)
      go_wp2_with fail
      go_ret
      exact hend.out _ (Shy.trans hS2.out (shy_drewN (U := fun j => j = T) _ _) fun _ _ h => h) (hB2.out.drewN _) _ (by rw [hcode.out]; rfl)
    · have hcode := hid (show codeS p 1 = 1 by unfold codeS; rw [if_neg (by omega), if_pos ⟨hB, hC⟩])
      have y3 : ((1 - p.limit) % p.slip == 0) = true := by simpa using hC
      clear hC
      go_wp2_with fail
      refine (hov.out 0).mono ?_
      rintro e _ ⟨rfl, nq2, rfl⟩
      go_wp2_with fail
      have hB2 : Blk ((w6.drewN nq2).setCell ⟨T, 1, none⟩ (.int .i64 1)) (T) 50 #[.int .i64 now, .int .i64 1] := (KT.out.drewN nq2).set_ 1 (.int .i64 1)
      have hS2 : Shy (fun j => j = T) w6 ((w6.drewN nq2).setCell ⟨T, 1, none⟩ (.int .i64 1)) := Shy.trans (shy_drewN (U := fun j => j = T) _ _) (set_shy (T) 1 _ _) fun _ _ h => h
      generalize ((w6.drewN nq2).setCell ⟨T, 1, none⟩ (.int .i64 1)) = wB at hB2 hS2 ⊢
      clear t0 t1 tf df
      obtain ⟨_, d1, _, d3, _, _, _, df⟩ := hlim.out
      have hg' : ∀ i, wB.cell? ⟨g, i, none⟩ = w6.cell? ⟨g, i, none⟩ := fun i => World.cell?_of_block (hS2.block g (hlt.out g (.inl rfl)) hgt')
      have z1 : wB.cell? ⟨g, 1, none⟩ = some (.int .i64 p.limit) := (hg' 1).trans d1
      have z3 : wB.cell? ⟨g, 3, none⟩ = some (.int .i64 p.slip) := (hg' 3).trans d3
      have z4 : wB.cell? ⟨T, 1, none⟩ = some (.int .i64 1) := hB2.cell 1
      have hB2 := hid hB2
      have hS2 := hid hS2
      clear hg' d1 d3 df
      go_quiet (fail)
      go_wp2_with fail
      go_ret
      exact hend.out _ (Shy.trans hS2.out (shy_drewN (U := fun j => j = T) _ _) fun _ _ h => h) (hB2.out.drewN _) _ (by rw [hcode.out]; rfl)
    · have hcode := hid (show codeS p 1 = 2 by unfold codeS; rw [if_neg (by omega), if_neg (fun h => hC h.2)])
      have y3 : ((1 - p.limit) % p.slip == 0) = false := by simpa using hC
      clear hC
      go_wp2_with fail
      refine (hov.out 0).mono ?_
      rintro e _ ⟨rfl, nq2, rfl⟩
      go_wp2_with fail
      have hB2 : Blk ((w6.drewN nq2).setCell ⟨T, 1, none⟩ (.int .i64 1)) (T) 50 #[.int .i64 now, .int .i64 1] := (KT.out.drewN nq2).set_ 1 (.int .i64 1)
      have hS2 : Shy (fun j => j = T) w6 ((w6.drewN nq2).setCell ⟨T, 1, none⟩ (.int .i64 1)) := Shy.trans (shy_drewN (U := fun j => j = T) _ _) (set_shy (T) 1 _ _) fun _ _ h => h
      generalize ((w6.drewN nq2).setCell ⟨T, 1, none⟩ (.int .i64 1)) = wB at hB2 hS2 ⊢
      clear t0 t1 tf df
      obtain ⟨_, d1, _, d3, _, _, _, df⟩ := hlim.out
      have hg' : ∀ i, wB.cell? ⟨g, i, none⟩ = w6.cell? ⟨g, i, none⟩ := fun i => World.cell?_of_block (hS2.block g (hlt.out g (.inl rfl)) hgt')
      have z1 : wB.cell? ⟨g, 1, none⟩ = some (.int .i64 p.limit) := (hg' 1).trans d1
      have z3 : wB.cell? ⟨g, 3, none⟩ = some (.int .i64 p.slip) := (hg' 3).trans d3
      have z4 : wB.cell? ⟨T, 1, none⟩ = some (.int .i64 1) := hB2.cell 1
      have hB2 := hid hB2
      have hS2 := hid hS2
      clear hg' d1 d3 df
      go_quiet (fail)
      go_wp2_with fail
      go_ret
      exact hend.out _ (Shy.trans hS2.out (shy_drewN (U := fun j => j = T) _ _) fun _ _ h => h) (hB2.out.drewN _) _ (by rw [hcode.out]; rfl)
theorem judge_evict {w : World} {g mb : Nat} {A : Option Addr} {cc : Nat} {p : Par} {now : Int} {P : List Row} (c : Int) (n : ByteArray) (t : Int) (h : LimB w g mb A cc p now P) (hkb : wfK c n) (hno : ∀ r ∈ P, ¬ r.is c n) (hl : (P.length : Int) = p.most) {i0 : Nat} (hG : goesK p (max now t) P P.length = some i0) (ht : 0 ≤ t ∧ t ≤ 1099511627776) :
    Calls Try.prog 9 #[.pointer (some ⟨g, 0, none⟩), .int .i64 c, .string n, .int .i64 t] w fun e w' => ∃ P1 r P2, P = P1 ++ r :: P2 ∧ P1.length = i0 ∧ JudgeN w w' e g mb A p (max now t) (P1 ++ P2) c n := by
  by_cases hle : now < t
  · rw [Int.max_eq_right (by omega)] at hG ⊢; exact judge_evict_t c n t h hkb hno hl hG ht hle
  · rw [Int.max_eq_left (by omega)] at hG ⊢; exact judge_evict_n c n t h hkb hno hl hG ht (by omega)
end Go.Proofs.Ytnoepnbgnlolbaa

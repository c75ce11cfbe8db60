/- Layer 29: what the examples say. -/
import Derived.Test.YtholjbnggnfapaaScrG
import Derived.Test.YtholjbnggnfapaaKitE
namespace Go.Proofs.Ytholjbnggnfapaa
open Go.BK Go.BK.SC Go.RowKit Go.Maps
set_option linter.unusedVariables false
set_option linter.unusedSimpArgs false
section
variable {w w' : World} {c d : Nat} {A B : Option Addr} {b : List UInt8} {e : Ev}
theorem evr_one (wa : World) (e : Ev) (B : Option Addr) (d : Nat) (h : Rd wa B d e.b) : EvR (wa.alloc (.cells #[.int .i64 e.kind, .int .i64 e.sort, .int .i64 e.who, .int .i64 e.port, .int .i64 e.conn, .int .i64 e.n, .slice B e.b.length d] 34)) (some ⟨wa.heap.size, 0, none⟩) 1 [⟨e, B, d⟩] := by
  refine ⟨?_, fun m hm => ?_⟩
  · have := rd_seven wa e B d 34
    simp only [cellsL, List.flatMap_cons, List.flatMap_nil, List.append_nil]
    exact this
  · rw [List.mem_singleton] at hm
    subst hm
    exact RdG.ext h (ext_alloc _ _)
theorem same_one {M : List Em} {c' c2 : Nat} {A' A2 : Option Addr} (h : EvR w A' c' M) (h2 : EvR w A2 c2 [⟨e, B, d⟩]) (he : M.map Em.e = [e]) : Calls Try.prog 12 #[.slice A' M.length c', .slice A2 1 c2] w fun r w' => r = .returned (.bool true) ∧ Ext w w' := by
  have he2 : M.map Em.e = ([⟨e, B, d⟩] : List Em).map Em.e := he
  have h3 := same_events h h2 he2
  rw [show ([⟨e, B, d⟩] : List Em).length = 1 from rfl] at h3
  exact h3
set_option maxHeartbeats 2000000 in
set_option maxRecDepth 100000 in
theorem is_in (h : Rd w A c b) (he : eventsS 4096 b = [e]) (hB : Rd w B d e.b) : Calls Try.prog 19 #[.slice A b.length c, .agg #[.int .i64 e.kind, .int .i64 e.sort, .int .i64 e.who, .int .i64 e.port, .int .i64 e.conn, .int .i64 e.n, .slice B e.b.length d]] w fun r w' => r = .returned (.bool true) ∧ Ext w w' := by
  have xa := ext_alloc w (.cells #[.int .i64 e.kind, .int .i64 e.sort, .int .i64 e.who, .int .i64 e.port, .int .i64 e.conn, .int .i64 e.n, .slice B e.b.length d] 34)
  obtain ⟨gb, hgb⟩ : ∃ gb, w.heap.size = gb := ⟨_, rfl⟩
  obtain ⟨w1, hw1⟩ : ∃ w1, w.alloc (.cells #[.int .i64 e.kind, .int .i64 e.sort, .int .i64 e.who, .int .i64 e.port, .int .i64 e.conn, .int .i64 e.n, .slice B e.b.length d] 34) = w1 := ⟨_, rfl⟩
  have bb := Blk.new w 34 #[.int .i64 e.kind, .int .i64 e.sort, .int .i64 e.who, .int .i64 e.port, .int .i64 e.conn, .int .i64 e.n, .slice B e.b.length d]
  rw [hw1] at xa bb
  rw [hgb] at bb
  have KEEP : Hid (∀ W, Ext w1 W → W.cell? ⟨gb, 0, none⟩ = some (.int .i64 e.kind) ∧ W.cell? ⟨gb, 1, none⟩ = some (.int .i64 e.sort) ∧ W.cell? ⟨gb, 2, none⟩ = some (.int .i64 e.who) ∧ W.cell? ⟨gb, 3, none⟩ = some (.int .i64 e.port) ∧ W.cell? ⟨gb, 4, none⟩ = some (.int .i64 e.conn) ∧ W.cell? ⟨gb, 5, none⟩ = some (.int .i64 e.n) ∧ W.cell? ⟨gb, 6, none⟩ = some (.slice B e.b.length d)) := hid (fun W x => (by
    have b2 := bb.ext x
    exact ⟨b2.cell 0, b2.cell 1, b2.cell 2, b2.cell 3, b2.cell 4, b2.cell 5, b2.cell 6⟩))
  have H := hid (RdG.ext h xa)
  have HB := hid (RdG.ext hB xa)
  have XA := hid xa
  have HE := hid he
  have HW := hid hw1
  have HG := hid hgb
  clear h he hB xa bb hw1 hgb
  go_enter Try.func19, Try.ntmps19
  go_upto_region 1 with (fail)
  rw [HW.out, HG.out]
  refine wp_region_noPanic ?_
  refine region_E (S := fun W => W.cell? ⟨gb, 0, none⟩ = some (.int .i64 e.kind) ∧ W.cell? ⟨gb, 1, none⟩ = some (.int .i64 e.sort) ∧ W.cell? ⟨gb, 2, none⟩ = some (.int .i64 e.who) ∧ W.cell? ⟨gb, 3, none⟩ = some (.int .i64 e.port) ∧ W.cell? ⟨gb, 4, none⟩ = some (.int .i64 e.conn) ∧ W.cell? ⟨gb, 5, none⟩ = some (.int .i64 e.n) ∧ W.cell? ⟨gb, 6, none⟩ = some (.slice B e.b.length d)) 5 (by kernel_rfl) (by kernel_rfl) (by kernel_rfl) ?_
  refine EG_take 0 (v := ?v1) (by simp only [List.getElem?_toArray, List.getElem?_cons_succ, List.getElem?_cons_zero]; rfl) (by kernel_rfl) (by kernel_rfl) (by decide) (fun _ _ _ h => h) (Or.inl ⟨by rfl, ?hy1⟩) (KEEP.out _ (ext_drew _)) ?rest1
  case hy1 => intro W hSW; (try dsimp only at hSW); obtain ⟨e0, e1, e2, e3, e4, e5, e6⟩ := hSW; go_simp <;> with_reducible rfl
  try simp only [Act.put, List.setIfInBounds_toArray, List.set_cons_zero, List.set_cons_succ]
  refine EG_take 2 (v := ?v2) (by simp only [List.getElem?_toArray, List.getElem?_cons_succ, List.getElem?_cons_zero]; rfl) (by kernel_rfl) (by kernel_rfl) (by decide) (fun _ _ _ h => h) (Or.inl ⟨by rfl, ?hy2⟩) (KEEP.out _ (ext_drew _)) ?rest2
  case hy2 => intro W hSW; (try dsimp only at hSW); obtain ⟨e0, e1, e2, e3, e4, e5, e6⟩ := hSW; go_simp <;> with_reducible rfl
  try simp only [Act.put, List.setIfInBounds_toArray, List.set_cons_zero, List.set_cons_succ]
  refine EG_two 1 3 (by kernel_rfl) (by simp only [List.getElem?_toArray, List.getElem?_cons_succ, List.getElem?_cons_zero]; rfl) (by simp only [List.getElem?_toArray, List.getElem?_cons_succ, List.getElem?_cons_zero]; rfl) (by decide) (by decide) ?_ ?_
  · intro K hK0
    have hK := hid hK0
    clear hK0
    go_simp
    refine (events_in (RdG.ext H.out (ext_drew w1))).mono ?_
    rintro r w2 ⟨A2, c2, M, rfl, hL, hM, x2⟩
    have X2 : Hid (Ext w1 w2) := hid (ext_trans (ext_drew w1) x2)
    have HL := hid hL.rd
    have HM := hid (hM.trans HE.out)
    clear hL hM x2
    go_simp
    refine hK.out _ _ (KEEP.out _ X2.out) ?_
    clear hK K
    try simp only [Act.put, List.setIfInBounds_toArray, List.set_cons_zero, List.set_cons_succ]
    refine EG_one 3 (by kernel_rfl) (by simp only [List.getElem?_toArray, List.getElem?_cons_succ, List.getElem?_cons_zero]; rfl) (by decide) ?_
    intro K hK0
    have hK := hid hK0
    clear hK0
    go_simp
    have xc := ext_alloc w2 (.cells #[.int .i64 e.kind, .int .i64 e.sort, .int .i64 e.who, .int .i64 e.port, .int .i64 e.conn, .int .i64 e.n, .slice B e.b.length d] 34)
    have X3 := hid (ext_trans X2.out xc)
    have R3 := hid (evr_one w2 e B d (RdG.ext HB.out X2.out))
    have L3 := hid (HL.out.ext xc)
    clear xc
    refine hK.out _ _ (KEEP.out _ X3.out) ?_
    clear hK K
    try simp only [Act.put, List.setIfInBounds_toArray, List.set_cons_zero, List.set_cons_succ]
    refine EG_one 4 (by kernel_rfl) (by simp only [List.getElem?_toArray, List.getElem?_cons_succ, List.getElem?_cons_zero]; rfl) (by decide) ?_
    intro K hK0
    have hK := hid hK0
    clear hK0
    go_simp
    refine (same_one L3.out R3.out HM.out).mono ?_
    rintro r w4 ⟨rfl, x4⟩
    have X4 := hid x4
    clear x4
    go_simp
    refine hK.out _ _ (KEEP.out _ (ext_trans X3.out X4.out)) ?_
    clear hK K
    try simp only [Act.put, List.setIfInBounds_toArray, List.set_cons_zero, List.set_cons_succ]
    refine EG_end (by kernel_rfl) (by simp only [List.getElem?_toArray, List.getElem?_cons_succ, List.getElem?_cons_zero]; rfl) ?_
    intro K hK0
    have hK := hid hK0
    clear hK0
    go_simp
    refine hK.out _ _ ?_
    clear hK K
    refine NoPanic.normal ?_
    go_wp2
    go_ret
    exact ⟨rfl, ext_trans XA.out (ext_trans X3.out X4.out)⟩
  · intro K hK0
    have hK := hid hK0
    clear hK0
    go_simp
    have xc := ext_alloc w1.drew (.cells #[.int .i64 e.kind, .int .i64 e.sort, .int .i64 e.who, .int .i64 e.port, .int .i64 e.conn, .int .i64 e.n, .slice B e.b.length d] 34)
    have X2 := hid (ext_trans (ext_drew w1) xc)
    have R2 := hid (evr_one w1.drew e B d (RdG.ext HB.out (ext_drew w1)))
    clear xc
    refine hK.out _ _ (KEEP.out _ X2.out) ?_
    clear hK K
    try simp only [Act.put, List.setIfInBounds_toArray, List.set_cons_zero, List.set_cons_succ]
    refine EG_one 1 (by kernel_rfl) (by simp only [List.getElem?_toArray, List.getElem?_cons_succ, List.getElem?_cons_zero]; rfl) (by decide) ?_
    intro K hK0
    have hK := hid hK0
    clear hK0
    go_simp
    refine (events_in (RdG.ext H.out X2.out)).mono ?_
    rintro r w3 ⟨A2, c2, M, rfl, hL, hM, x3⟩
    have X3 : Hid (Ext w1 w3) := hid (ext_trans X2.out x3)
    have L3 := hid hL.rd
    have R3 := hid (R2.out.ext x3)
    have HM := hid (hM.trans HE.out)
    clear hL hM x3
    go_simp
    refine hK.out _ _ (KEEP.out _ X3.out) ?_
    clear hK K
    try simp only [Act.put, List.setIfInBounds_toArray, List.set_cons_zero, List.set_cons_succ]
    refine EG_one 4 (by kernel_rfl) (by simp only [List.getElem?_toArray, List.getElem?_cons_succ, List.getElem?_cons_zero]; rfl) (by decide) ?_
    intro K hK0
    have hK := hid hK0
    clear hK0
    go_simp
    refine (same_one L3.out R3.out HM.out).mono ?_
    rintro r w4 ⟨rfl, x4⟩
    have X4 := hid x4
    clear x4
    go_simp
    refine hK.out _ _ (KEEP.out _ (ext_trans X3.out X4.out)) ?_
    clear hK K
    try simp only [Act.put, List.setIfInBounds_toArray, List.set_cons_zero, List.set_cons_succ]
    refine EG_end (by kernel_rfl) (by simp only [List.getElem?_toArray, List.getElem?_cons_succ, List.getElem?_cons_zero]; rfl) ?_
    intro K hK0
    have hK := hid hK0
    clear hK0
    go_simp
    refine hK.out _ _ ?_
    clear hK K
    refine NoPanic.normal ?_
    go_wp2
    go_ret
    exact ⟨rfl, ext_trans XA.out (ext_trans X3.out X4.out)⟩
theorem lit_rd (w : World) (l : List UInt8) (hl : l.length ≤ 100) : Rd (w.alloc (.cells (l.map u8v).toArray 5)) (some ⟨w.heap.size, 0, none⟩) l.length l := by
  have := OwnG.new (ok := isU8) (base := 0) (size := 1) (e := 5) w (l.map u8v) l.length l.length (Nat.zero_le _) (by simp) (Nat.le_refl _) (by unfold maxLen; omega) (isU8_map l)
  have h2 := this.rd
  unfold Rd
  rwa [List.take_of_length_le (by simp)] at h2
set_option maxHeartbeats 2000000 in
set_option maxRecDepth 100000 in
theorem awake_in (w : World) : Calls Try.prog 15 #[] w fun r w' => r = .returned (.bool true) ∧ Ext w w' := by
  have r1 := lit_rd w [5, 0, 3] (by decide)
  have C1 := hid (is_in (d := 0) (B := none) (e := ⟨6, 0, 0, 0, 0, 3, []⟩) r1 (by decide +kernel) (RdG.none_ _ _))
  have X1 := hid (ext_alloc w (.cells (([5, 0, 3] : List UInt8).map u8v).toArray 5))
  have C2 := hid (fun w => is_in (d := 0) (B := none) (e := ⟨2, 2, 7, 0, 0, 0, []⟩) (lit_rd w [1, 2, 0, 0, 0, 7] (by decide)) (by decide +kernel) (RdG.none_ _ _))
  have X2 := hid (fun w => ext_alloc w (.cells (([1, 2, 0, 0, 0, 7] : List UInt8).map u8v).toArray 5))
  clear r1
  go_enter Try.func15, Try.ntmps15
  go_wp2_with fail
  refine C1.out.mono ?_
  rintro r w2 ⟨rfl, x2⟩
  have Y2 := hid x2
  clear x2
  go_wp2_with fail
  refine (C2.out w2).mono ?_
  rintro r w3 ⟨rfl, x3⟩
  have Y3 := hid x3
  clear x3
  go_wp2_with fail
  go_ret
  exact ⟨rfl, ext_trans X1.out (ext_trans Y2.out (ext_trans (X2.out _) Y3.out))⟩
end
end Go.Proofs.Ytholjbnggnfapaa

import Derived.Test.YtcddfenhkljpeaaChcD
/- Layer 23: live. (Printed by gen_chce.py.) -/
namespace Go.Proofs.Ytcddfenhkljpeaa
open Go.BK Go.BK.CH Go.BK.NM Go.RowKit Go.Maps
set_option linter.unusedVariables false
set_option linter.unusedSimpArgs false
theorem meth_none (v : Value) (w : World) : (method 240 82 v "ostiary/cache.until").run Try.prog w = .ok (87, v) w := by kernel_rfl
theorem meth_known (v : Value) (w : World) : (method 240 84 v "ostiary/cache.until").run Try.prog w = .ok (88, v) w := by kernel_rfl
theorem call_none (v : Value) (w : World) : (callFunc 87 #[v]).run Try.prog w = .ok (.enter 87 #[v]) w := by kernel_rfl
theorem call_known (v : Value) (w : World) : (callFunc 88 #[v]).run Try.prog w = .ok (.enter 88 #[v]) w := by kernel_rfl
section
variable {w w' : World} {g og mb : Nat} {most now : Int} {R P1 P2 : List Row} {r : Row}
theorem until_any {x : Th} {A : Option Addr} {c : Nat} {tt : TypeId} {tv : Value} (h : thV x A c = .iface tt tv) : ∃ uf, (∀ W, (method 240 tt tv "ostiary/cache.until").run Try.prog W = .ok (uf, tv) W) ∧ (∀ W, (callFunc uf #[tv]).run Try.prog W = .ok (.enter uf #[tv]) W) ∧ ∀ W, Calls Try.prog uf #[tv] W fun e w' => e = .returned (.int .i64 x.till) ∧ Ext W w' := by
  cases x with
  | none e =>
    unfold thV at h
    injection h with h1 h2
    subst h1; subst h2
    exact ⟨_, fun W => meth_none _ W, fun W => call_none _ W, fun W => until_none e W⟩
  | known s rank e =>
    unfold thV at h
    injection h with h1 h2
    subst h1; subst h2
    exact ⟨_, fun W => meth_known _ W, fun W => call_known _ W, fun W => until_known s rank e A c W⟩
set_option maxHeartbeats 4000000 in
set_option maxRecDepth 100000 in
theorem live_no (h : CacM w g og mb most now R) {n : List UInt8} {k : Int} (hwf : ∀ r ∈ R, wfN r.n r.k) (hk : wfN n k) (hno : ∀ r ∈ R, ¬ r.is n k) :
    Calls Try.prog 37 #[pt g, .agg #[.string (str n), .int .i64 k]] w fun e w' => e = .returned .nilIface ∧ Ext w w' := by
  have xa := ext_alloc w (.cells #[.string (str n), .int .i64 k] 77)
  have ba := Blk.new w 77 #[.string (str n), .int .i64 k]
  have h2 := h.ext xa
  have hl : ∀ W, Ext (w.alloc (.cells #[.string (str n), .int .i64 k] 77)) W → (Instr.lookup 62 (.map (some mb)) (.agg #[.string (str n), .int .i64 k]) true).run Try.prog W = .ok (.tuple #[.pointer none, .bool false]) W := fun W x => by
    have hl := (h2.ext x).look hk
    rw [tabC_no hwf hk hno] at hl
    simpa using hl
  obtain ⟨wa, hwa⟩ : ∃ wa, w.alloc (.cells #[.string (str n), .int .i64 k] 77) = wa := ⟨_, rfl⟩
  obtain ⟨gk, hgk⟩ : ∃ gk, w.heap.size = gk := ⟨_, rfl⟩
  rw [hwa] at xa ba h2 hl
  rw [hgk] at ba
  have XA := hid xa
  have BA := hid ba
  have H2 := hid h2
  have HWA := hid hwa
  have HGK := hid hgk
  have HL := hid hl
  simp only [pt]
  clear h h2 xa ba hwa hgk hl hwf hk hno
  go_enter Try.func37, Try.ntmps37
  go_upto_region 1 with (fail)
  rw [HWA.out, HGK.out]
  have KP1 : Hid (∀ W, Ext wa W → W.cell? ⟨g, 3, none⟩ = some (.map (some mb)) ∧ W.cell? ⟨gk, 0, none⟩ = some (.string (str n)) ∧ W.cell? ⟨gk, 1, none⟩ = some (.int .i64 k) ∧ (Instr.lookup 62 (.map (some mb)) (.agg #[.string (str n), .int .i64 k]) true).run Try.prog W = .ok (.tuple #[.pointer none, .bool false]) W) := hid (fun W x => ⟨(H2.out.ext x).1.cell 3, (BA.out.ext x).cell 0, (BA.out.ext x).cell 1, HL.out W x⟩)
  go_region_held3 (fun W => W.cell? ⟨g, 3, none⟩ = some (.map (some mb)) ∧ W.cell? ⟨gk, 0, none⟩ = some (.string (str n)) ∧ W.cell? ⟨gk, 1, none⟩ = some (.int .i64 k) ∧ (Instr.lookup 62 (.map (some mb)) (.agg #[.string (str n), .int .i64 k]) true).run Try.prog W = .ok (.tuple #[.pointer none, .bool false]) W) (first | exact KP1.out _ (ext_refl _) | exact KP1.out _ (ext_drew _) | go_keep) ((fail))
  go_upto_region 2 with (fail)
  refine wp_region_noPanic ?_
  refine region_E (S := fun W => True) 12 (by kernel_rfl) (by kernel_rfl) (by kernel_rfl) ?_
  refine EG_take 0 (v := ?v1) (by simp only [lga, lgb, lgc]; rfl) (by kernel_rfl) (by kernel_rfl) (by decide) (fun _ _ _ h => h) (Or.inl ⟨by rfl, ?hy1⟩) (trivial) ?rest1
  case hy1 => intro W hSW; (try dsimp only at hSW); clear hSW; go_simp <;> with_reducible rfl
  try simp only [Act.put, lsa, lsb, lsc]
  refine EG_take 1 (v := ?v2) (by simp only [lga, lgb, lgc]; rfl) (by kernel_rfl) (by kernel_rfl) (by decide) (fun _ _ _ h => h) (Or.inl ⟨by rfl, ?hy2⟩) (trivial) ?rest2
  case hy2 => intro W hSW; (try dsimp only at hSW); clear hSW; go_simp <;> with_reducible rfl
  try simp only [Act.put, lsa, lsb, lsc]
  refine EG_take 2 (v := ?v3) (by simp only [lga, lgb, lgc]; rfl) (by kernel_rfl) (by kernel_rfl) (by decide) (fun _ _ _ h => h) (Or.inl ⟨by rfl, ?hy3⟩) (trivial) ?rest3
  case hy3 => intro W hSW; (try dsimp only at hSW); clear hSW; go_simp <;> with_reducible rfl
  try simp only [Act.put, lsa, lsb, lsc]
  refine EG_take 3 (v := undef) (by simp only [lga, lgb, lgc]; rfl) (by kernel_rfl) (by kernel_rfl) (by decide) (fun _ _ _ h => h) (Or.inr ⟨by rfl, rfl⟩) (trivial) ?rest4
  try simp only [Act.put, lsa, lsb, lsc]
  refine EG_take 4 (v := undef) (by simp only [lga, lgb, lgc]; rfl) (by kernel_rfl) (by kernel_rfl) (by decide) (fun _ _ _ h => h) (Or.inr ⟨by rfl, rfl⟩) (trivial) ?rest5
  try simp only [Act.put, lsa, lsb, lsc]
  refine EG_take 5 (v := undef) (by simp only [lga, lgb, lgc]; rfl) (by kernel_rfl) (by kernel_rfl) (by decide) (fun _ _ _ h => h) (Or.inr ⟨by rfl, rfl⟩) (trivial) ?rest6
  try simp only [Act.put, lsa, lsb, lsc]
  refine EG_take 6 (v := undef) (by simp only [lga, lgb, lgc]; rfl) (by kernel_rfl) (by kernel_rfl) (by decide) (fun _ _ _ h => h) (Or.inr ⟨by rfl, rfl⟩) (trivial) ?rest7
  try simp only [Act.put, lsa, lsb, lsc]
  refine EG_take 7 (v := undef) (by simp only [lga, lgb, lgc]; rfl) (by kernel_rfl) (by kernel_rfl) (by decide) (fun _ _ _ h => h) (Or.inr ⟨by rfl, rfl⟩) (trivial) ?rest8
  try simp only [Act.put, lsa, lsb, lsc]
  refine EG_take 8 (v := undef) (by simp only [lga, lgb, lgc]; rfl) (by kernel_rfl) (by kernel_rfl) (by decide) (fun _ _ _ h => h) (Or.inr ⟨by rfl, rfl⟩) (trivial) ?rest9
  try simp only [Act.put, lsa, lsb, lsc]
  refine EG_take 9 (v := undef) (by simp only [lga, lgb, lgc]; rfl) (by kernel_rfl) (by kernel_rfl) (by decide) (fun _ _ _ h => h) (Or.inr ⟨by rfl, rfl⟩) (trivial) ?rest10
  try simp only [Act.put, lsa, lsb, lsc]
  refine EG_take 10 (v := undef) (by simp only [lga, lgb, lgc]; rfl) (by kernel_rfl) (by kernel_rfl) (by decide) (fun _ _ _ h => h) (Or.inr ⟨by rfl, rfl⟩) (trivial) ?rest11
  try simp only [Act.put, lsa, lsb, lsc]
  refine EG_take 11 (v := undef) (by simp only [lga, lgb, lgc]; rfl) (by kernel_rfl) (by kernel_rfl) (by decide) (fun _ _ _ h => h) (Or.inr ⟨by rfl, rfl⟩) (trivial) ?rest12
  try simp only [Act.put, lsa, lsb, lsc]
  refine EG_end (by kernel_rfl) (by simp only [lga, lgb, lgc]; rfl) ?_
  intro K hK0
  have hK := hid hK0
  clear hK0
  go_simp
  refine hK.out _ _ ?_
  clear hK K
  refine NoPanic.normal ?_
  go_wp2
  go_ret
  exact ⟨rfl, ext_trans XA.out (ext_trans (ext_drew _) (ext_drew _))⟩
set_option maxHeartbeats 4000000 in
set_option maxRecDepth 100000 in
theorem live_over (h : CacM w g og mb most now (P1 ++ r :: P2)) (hwf : ∀ s ∈ P1 ++ r :: P2, wfN s.n s.k) (hd : DiffR (P1 ++ r :: P2)) (ht : r.x.till ≤ now) :
    Calls Try.prog 37 #[pt g, .agg #[.string (str r.n), .int .i64 r.k]] w fun e w' => e = .returned .nilIface ∧ Ext w w' := by
  have hkr : wfN r.n r.k := hwf r (by simp)
  have xa := ext_alloc w (.cells #[.string (str r.n), .int .i64 r.k] 77)
  have ba := Blk.new w 77 #[.string (str r.n), .int .i64 r.k]
  have h2 := h.ext xa
  have hl : ∀ W, Ext (w.alloc (.cells #[.string (str r.n), .int .i64 r.k] 77)) W → (Instr.lookup 62 (.map (some mb)) (.agg #[.string (str r.n), .int .i64 r.k]) true).run Try.prog W = .ok (.tuple #[.pointer (some ⟨r.b, 0, none⟩), .bool true]) W := fun W x => by
    have hl := (h2.ext x).look hkr
    rw [tabC_at hwf hd] at hl
    simpa [pt] using hl
  have CO := hid (fun W (x : Ext w W) => of_in (h.ext x) (r := r) (by simp))
  have HT := hid ht
  clear hwf hkr hd ht
  obtain ⟨wa, hwa⟩ : ∃ wa, w.alloc (.cells #[.string (str r.n), .int .i64 r.k] 77) = wa := ⟨_, rfl⟩
  obtain ⟨gk, hgk⟩ : ∃ gk, w.heap.size = gk := ⟨_, rfl⟩
  rw [hwa] at xa ba h2 hl
  rw [hgk] at ba
  have XA := hid xa
  have BA := hid ba
  have H2 := hid h2
  have HWA := hid hwa
  have HGK := hid hgk
  have HL := hid hl
  simp only [pt]
  clear h h2 xa ba hwa hgk hl 
  go_enter Try.func37, Try.ntmps37
  go_upto_region 1 with (fail)
  rw [HWA.out, HGK.out]
  have KP1 : Hid (∀ W, Ext wa W → W.cell? ⟨g, 3, none⟩ = some (.map (some mb)) ∧ W.cell? ⟨gk, 0, none⟩ = some (.string (str r.n)) ∧ W.cell? ⟨gk, 1, none⟩ = some (.int .i64 r.k) ∧ (Instr.lookup 62 (.map (some mb)) (.agg #[.string (str r.n), .int .i64 r.k]) true).run Try.prog W = .ok (.tuple #[.pointer (some ⟨r.b, 0, none⟩), .bool true]) W) := hid (fun W x => ⟨(H2.out.ext x).1.cell 3, (BA.out.ext x).cell 0, (BA.out.ext x).cell 1, HL.out W x⟩)
  go_region_held3 (fun W => W.cell? ⟨g, 3, none⟩ = some (.map (some mb)) ∧ W.cell? ⟨gk, 0, none⟩ = some (.string (str r.n)) ∧ W.cell? ⟨gk, 1, none⟩ = some (.int .i64 r.k) ∧ (Instr.lookup 62 (.map (some mb)) (.agg #[.string (str r.n), .int .i64 r.k]) true).run Try.prog W = .ok (.tuple #[.pointer (some ⟨r.b, 0, none⟩), .bool true]) W) (first | exact KP1.out _ (ext_refl _) | exact KP1.out _ (ext_drew _) | go_keep) ((fail))
  obtain ⟨tt, tv, htv⟩ := thV_if r.x r.A r.c
  obtain ⟨uf, hmeth, hcall, CU⟩ : ∃ uf, (∀ W, (method 240 tt tv "ostiary/cache.until").run Try.prog W = .ok (uf, tv) W) ∧ (∀ W, (callFunc uf #[tv]).run Try.prog W = .ok (.enter uf #[tv]) W) ∧ ∀ W, Calls Try.prog uf #[tv] W fun e w' => e = .returned (.int .i64 r.x.till) ∧ Ext W w' := until_any htv
  have CU := hid CU
  obtain ⟨tl, htl⟩ : ∃ tl, r.x.till = tl := ⟨_, rfl⟩
  rw [htl] at CU HT
  simp only [pt] at CO
  have XW : Hid (Ext w wa.drew) := hid (ext_trans XA.out (ext_drew _))
  have KEEP : Hid (∀ W, Ext wa.drew W → W.cell? ⟨g, 1, none⟩ = some (.int .i64 now)) := hid (fun W x => (H2.out.ext (ext_trans (ext_drew _) x)).1.cell 1)
  obtain ⟨w2, hw2⟩ : ∃ w2, wa.drew = w2 := ⟨_, rfl⟩
  rw [hw2] at XW KEEP ⊢
  clear hw2
  go_upto_region 2 with (fail)
  refine wp_region_noPanic ?_
  refine region_E (S := fun W => W.cell? ⟨g, 1, none⟩ = some (.int .i64 now)) 12 (by kernel_rfl) (by kernel_rfl) (by kernel_rfl) ?_
  refine EG_take 0 (v := ?v15) (by simp only [lga, lgb, lgc]; rfl) (by kernel_rfl) (by kernel_rfl) (by decide) (fun _ _ _ h => h) (Or.inl ⟨by rfl, ?hy15⟩) (KEEP.out _ (ext_drew _)) ?rest15
  case hy15 => intro W hSW; (try dsimp only at hSW); skip; go_simp <;> with_reducible rfl
  try simp only [Act.put, lsa, lsb, lsc]
  refine EG_take 1 (v := ?v16) (by simp only [lga, lgb, lgc]; rfl) (by kernel_rfl) (by kernel_rfl) (by decide) (fun _ _ _ h => h) (Or.inl ⟨by rfl, ?hy16⟩) (KEEP.out _ (ext_drew _)) ?rest16
  case hy16 => intro W hSW; (try dsimp only at hSW); skip; go_simp <;> with_reducible rfl
  try simp only [Act.put, lsa, lsb, lsc]
  refine EG_take 2 (v := ?v17) (by simp only [lga, lgb, lgc]; rfl) (by kernel_rfl) (by kernel_rfl) (by decide) (fun _ _ _ h => h) (Or.inl ⟨by rfl, ?hy17⟩) (KEEP.out _ (ext_drew _)) ?rest17
  case hy17 => intro W hSW; (try dsimp only at hSW); skip; go_simp <;> with_reducible rfl
  try simp only [Act.put, lsa, lsb, lsc]
  refine EG_take 3 (v := ?v18) (by simp only [lga, lgb, lgc]; rfl) (by kernel_rfl) (by kernel_rfl) (by decide) (fun _ _ _ h => h) (Or.inl ⟨by rfl, ?hy18⟩) (KEEP.out _ (ext_drew _)) ?rest18
  case hy18 => intro W hSW; (try dsimp only at hSW); skip; go_simp <;> with_reducible rfl
  try simp only [Act.put, lsa, lsb, lsc]
  refine EG_take 7 (v := ?v19) (by simp only [lga, lgb, lgc]; rfl) (by kernel_rfl) (by kernel_rfl) (by decide) (fun _ _ _ h => h) (Or.inl ⟨by rfl, ?hy19⟩) (KEEP.out _ (ext_drew _)) ?rest19
  case hy19 => intro W hSW; (try dsimp only at hSW); skip; go_simp <;> with_reducible rfl
  try simp only [Act.put, lsa, lsb, lsc]
  refine EG_take 8 (v := ?v20) (by simp only [lga, lgb, lgc]; rfl) (by kernel_rfl) (by kernel_rfl) (by decide) (fun _ _ _ h => h) (Or.inl ⟨by rfl, ?hy20⟩) (KEEP.out _ (ext_drew _)) ?rest20
  case hy20 => intro W hSW; (try dsimp only at hSW); skip; go_simp <;> with_reducible rfl
  try simp only [Act.put, lsa, lsb, lsc]
  refine EG_take 9 (v := ?v21) (by simp only [lga, lgb, lgc]; rfl) (by kernel_rfl) (by kernel_rfl) (by decide) (fun _ _ _ h => h) (Or.inl ⟨by rfl, ?hy21⟩) (KEEP.out _ (ext_drew _)) ?rest21
  case hy21 => intro W hSW; (try dsimp only at hSW); skip; go_simp <;> with_reducible rfl
  try simp only [Act.put, lsa, lsb, lsc]
  refine EG_take 10 (v := ?v22) (by simp only [lga, lgb, lgc]; rfl) (by kernel_rfl) (by kernel_rfl) (by decide) (fun _ _ _ h => h) (Or.inl ⟨by rfl, ?hy22⟩) (KEEP.out _ (ext_drew _)) ?rest22
  case hy22 => intro W hSW; (try dsimp only at hSW); skip; go_simp <;> with_reducible rfl
  try simp only [Act.put, lsa, lsb, lsc]
  refine EG_one 4 (by kernel_rfl) (by simp only [lga, lgb, lgc]; rfl) (by decide) ?_
  intro K hK0
  have hK := hid hK0
  clear hK0
  go_simp
  refine (CO.out _ (ext_trans XW.out (ext_drew _))).mono ?_
  rintro e w5 ⟨rfl, x5⟩
  have X5 : Hid (Ext w2 w5) := hid (ext_trans (ext_drew _) x5)
  clear x5
  rw [htv]
  have hft := fun W => field_thing (str r.n) r.k tt tv W
  go_simp
  refine hK.out _ _ (KEEP.out _ X5.out) ?_
  clear hK K
  try simp only [Act.put, lsa, lsb, lsc]
  refine EG_take 5 (v := ?v23) (by simp only [lga, lgb, lgc]; rfl) (by kernel_rfl) (by kernel_rfl) (by decide) (fun _ _ _ h => h) (Or.inl ⟨by rfl, ?hy23⟩) (KEEP.out _ X5.out) ?rest23
  case hy23 => intro W hSW; (try dsimp only at hSW); have hft2 := hft W; go_simp <;> with_reducible rfl
  try simp only [Act.put, lsa, lsb, lsc]
  refine EG_one 6 (by kernel_rfl) (by simp only [lga, lgb, lgc]; rfl) (by decide) ?_
  intro K hK0
  have hK := hid hK0
  clear hK0
  go_simp
  refine (CU.out _).mono ?_
  rintro e w6 ⟨rfl, x6⟩
  have X6 : Hid (Ext w2 w6) := hid (ext_trans X5.out x6)
  clear x6
  go_simp
  refine hK.out _ _ (KEEP.out _ X6.out) ?_
  clear hK K
  try simp only [Act.put, lsa, lsb, lsc]
  have ht := HT.out
  refine EG_take 11 (v := ?v13) (by simp only [lga, lgb, lgc]; rfl) (by kernel_rfl) (by kernel_rfl) (by decide) (fun _ _ _ h => h) (Or.inl ⟨by rfl, ?hy13⟩) (KEEP.out _ X6.out) ?rest13
  case hy13 => intro W hSW; (try dsimp only at hSW); skip; go_simp <;> with_reducible rfl
  try simp only [Act.put, lsa, lsb, lsc]
  refine EG_end (by kernel_rfl) (by simp only [lga, lgb, lgc]; rfl) ?_
  intro K hK0
  have hK := hid hK0
  clear hK0
  go_simp
  refine hK.out _ _ ?_
  clear hK K
  refine NoPanic.normal ?_
  go_wp2
  go_ret
  exact ⟨rfl, ext_trans XW.out X6.out⟩
set_option maxHeartbeats 4000000 in
set_option maxRecDepth 100000 in
theorem live_yes (h : CacM w g og mb most now (P1 ++ r :: P2)) (hwf : ∀ s ∈ P1 ++ r :: P2, wfN s.n s.k) (hd : DiffR (P1 ++ r :: P2)) (ht : now < r.x.till) :
    Calls Try.prog 37 #[pt g, .agg #[.string (str r.n), .int .i64 r.k]] w fun e w' => e = .returned (thV r.x r.A r.c) ∧ Ext w w' := by
  have hkr : wfN r.n r.k := hwf r (by simp)
  have xa := ext_alloc w (.cells #[.string (str r.n), .int .i64 r.k] 77)
  have ba := Blk.new w 77 #[.string (str r.n), .int .i64 r.k]
  have h2 := h.ext xa
  have hl : ∀ W, Ext (w.alloc (.cells #[.string (str r.n), .int .i64 r.k] 77)) W → (Instr.lookup 62 (.map (some mb)) (.agg #[.string (str r.n), .int .i64 r.k]) true).run Try.prog W = .ok (.tuple #[.pointer (some ⟨r.b, 0, none⟩), .bool true]) W := fun W x => by
    have hl := (h2.ext x).look hkr
    rw [tabC_at hwf hd] at hl
    simpa [pt] using hl
  have CO := hid (fun W (x : Ext w W) => of_in (h.ext x) (r := r) (by simp))
  have HT := hid ht
  clear hwf hkr hd ht
  obtain ⟨wa, hwa⟩ : ∃ wa, w.alloc (.cells #[.string (str r.n), .int .i64 r.k] 77) = wa := ⟨_, rfl⟩
  obtain ⟨gk, hgk⟩ : ∃ gk, w.heap.size = gk := ⟨_, rfl⟩
  rw [hwa] at xa ba h2 hl
  rw [hgk] at ba
  have XA := hid xa
  have BA := hid ba
  have H2 := hid h2
  have HWA := hid hwa
  have HGK := hid hgk
  have HL := hid hl
  simp only [pt]
  clear h h2 xa ba hwa hgk hl 
  go_enter Try.func37, Try.ntmps37
  go_upto_region 1 with (fail)
  rw [HWA.out, HGK.out]
  have KP1 : Hid (∀ W, Ext wa W → W.cell? ⟨g, 3, none⟩ = some (.map (some mb)) ∧ W.cell? ⟨gk, 0, none⟩ = some (.string (str r.n)) ∧ W.cell? ⟨gk, 1, none⟩ = some (.int .i64 r.k) ∧ (Instr.lookup 62 (.map (some mb)) (.agg #[.string (str r.n), .int .i64 r.k]) true).run Try.prog W = .ok (.tuple #[.pointer (some ⟨r.b, 0, none⟩), .bool true]) W) := hid (fun W x => ⟨(H2.out.ext x).1.cell 3, (BA.out.ext x).cell 0, (BA.out.ext x).cell 1, HL.out W x⟩)
  go_region_held3 (fun W => W.cell? ⟨g, 3, none⟩ = some (.map (some mb)) ∧ W.cell? ⟨gk, 0, none⟩ = some (.string (str r.n)) ∧ W.cell? ⟨gk, 1, none⟩ = some (.int .i64 r.k) ∧ (Instr.lookup 62 (.map (some mb)) (.agg #[.string (str r.n), .int .i64 r.k]) true).run Try.prog W = .ok (.tuple #[.pointer (some ⟨r.b, 0, none⟩), .bool true]) W) (first | exact KP1.out _ (ext_refl _) | exact KP1.out _ (ext_drew _) | go_keep) ((fail))
  obtain ⟨tt, tv, htv⟩ := thV_if r.x r.A r.c
  obtain ⟨uf, hmeth, hcall, CU⟩ : ∃ uf, (∀ W, (method 240 tt tv "ostiary/cache.until").run Try.prog W = .ok (uf, tv) W) ∧ (∀ W, (callFunc uf #[tv]).run Try.prog W = .ok (.enter uf #[tv]) W) ∧ ∀ W, Calls Try.prog uf #[tv] W fun e w' => e = .returned (.int .i64 r.x.till) ∧ Ext W w' := until_any htv
  have CU := hid CU
  obtain ⟨tl, htl⟩ : ∃ tl, r.x.till = tl := ⟨_, rfl⟩
  rw [htl] at CU HT
  simp only [pt] at CO
  have XW : Hid (Ext w wa.drew) := hid (ext_trans XA.out (ext_drew _))
  have KEEP : Hid (∀ W, Ext wa.drew W → W.cell? ⟨g, 1, none⟩ = some (.int .i64 now)) := hid (fun W x => (H2.out.ext (ext_trans (ext_drew _) x)).1.cell 1)
  obtain ⟨w2, hw2⟩ : ∃ w2, wa.drew = w2 := ⟨_, rfl⟩
  rw [hw2] at XW KEEP ⊢
  clear hw2
  go_upto_region 2 with (fail)
  refine wp_region_noPanic ?_
  refine region_E (S := fun W => W.cell? ⟨g, 1, none⟩ = some (.int .i64 now)) 12 (by kernel_rfl) (by kernel_rfl) (by kernel_rfl) ?_
  refine EG_take 0 (v := ?v24) (by simp only [lga, lgb, lgc]; rfl) (by kernel_rfl) (by kernel_rfl) (by decide) (fun _ _ _ h => h) (Or.inl ⟨by rfl, ?hy24⟩) (KEEP.out _ (ext_drew _)) ?rest24
  case hy24 => intro W hSW; (try dsimp only at hSW); skip; go_simp <;> with_reducible rfl
  try simp only [Act.put, lsa, lsb, lsc]
  refine EG_take 1 (v := ?v25) (by simp only [lga, lgb, lgc]; rfl) (by kernel_rfl) (by kernel_rfl) (by decide) (fun _ _ _ h => h) (Or.inl ⟨by rfl, ?hy25⟩) (KEEP.out _ (ext_drew _)) ?rest25
  case hy25 => intro W hSW; (try dsimp only at hSW); skip; go_simp <;> with_reducible rfl
  try simp only [Act.put, lsa, lsb, lsc]
  refine EG_take 2 (v := ?v26) (by simp only [lga, lgb, lgc]; rfl) (by kernel_rfl) (by kernel_rfl) (by decide) (fun _ _ _ h => h) (Or.inl ⟨by rfl, ?hy26⟩) (KEEP.out _ (ext_drew _)) ?rest26
  case hy26 => intro W hSW; (try dsimp only at hSW); skip; go_simp <;> with_reducible rfl
  try simp only [Act.put, lsa, lsb, lsc]
  refine EG_take 3 (v := ?v27) (by simp only [lga, lgb, lgc]; rfl) (by kernel_rfl) (by kernel_rfl) (by decide) (fun _ _ _ h => h) (Or.inl ⟨by rfl, ?hy27⟩) (KEEP.out _ (ext_drew _)) ?rest27
  case hy27 => intro W hSW; (try dsimp only at hSW); skip; go_simp <;> with_reducible rfl
  try simp only [Act.put, lsa, lsb, lsc]
  refine EG_take 7 (v := ?v28) (by simp only [lga, lgb, lgc]; rfl) (by kernel_rfl) (by kernel_rfl) (by decide) (fun _ _ _ h => h) (Or.inl ⟨by rfl, ?hy28⟩) (KEEP.out _ (ext_drew _)) ?rest28
  case hy28 => intro W hSW; (try dsimp only at hSW); skip; go_simp <;> with_reducible rfl
  try simp only [Act.put, lsa, lsb, lsc]
  refine EG_take 8 (v := ?v29) (by simp only [lga, lgb, lgc]; rfl) (by kernel_rfl) (by kernel_rfl) (by decide) (fun _ _ _ h => h) (Or.inl ⟨by rfl, ?hy29⟩) (KEEP.out _ (ext_drew _)) ?rest29
  case hy29 => intro W hSW; (try dsimp only at hSW); skip; go_simp <;> with_reducible rfl
  try simp only [Act.put, lsa, lsb, lsc]
  refine EG_take 9 (v := ?v30) (by simp only [lga, lgb, lgc]; rfl) (by kernel_rfl) (by kernel_rfl) (by decide) (fun _ _ _ h => h) (Or.inl ⟨by rfl, ?hy30⟩) (KEEP.out _ (ext_drew _)) ?rest30
  case hy30 => intro W hSW; (try dsimp only at hSW); skip; go_simp <;> with_reducible rfl
  try simp only [Act.put, lsa, lsb, lsc]
  refine EG_take 10 (v := ?v31) (by simp only [lga, lgb, lgc]; rfl) (by kernel_rfl) (by kernel_rfl) (by decide) (fun _ _ _ h => h) (Or.inl ⟨by rfl, ?hy31⟩) (KEEP.out _ (ext_drew _)) ?rest31
  case hy31 => intro W hSW; (try dsimp only at hSW); skip; go_simp <;> with_reducible rfl
  try simp only [Act.put, lsa, lsb, lsc]
  refine EG_one 4 (by kernel_rfl) (by simp only [lga, lgb, lgc]; rfl) (by decide) ?_
  intro K hK0
  have hK := hid hK0
  clear hK0
  go_simp
  refine (CO.out _ (ext_trans XW.out (ext_drew _))).mono ?_
  rintro e w5 ⟨rfl, x5⟩
  have X5 : Hid (Ext w2 w5) := hid (ext_trans (ext_drew _) x5)
  clear x5
  rw [htv]
  have hft := fun W => field_thing (str r.n) r.k tt tv W
  go_simp
  refine hK.out _ _ (KEEP.out _ X5.out) ?_
  clear hK K
  try simp only [Act.put, lsa, lsb, lsc]
  refine EG_take 5 (v := ?v32) (by simp only [lga, lgb, lgc]; rfl) (by kernel_rfl) (by kernel_rfl) (by decide) (fun _ _ _ h => h) (Or.inl ⟨by rfl, ?hy32⟩) (KEEP.out _ X5.out) ?rest32
  case hy32 => intro W hSW; (try dsimp only at hSW); have hft2 := hft W; go_simp <;> with_reducible rfl
  try simp only [Act.put, lsa, lsb, lsc]
  refine EG_one 6 (by kernel_rfl) (by simp only [lga, lgb, lgc]; rfl) (by decide) ?_
  intro K hK0
  have hK := hid hK0
  clear hK0
  go_simp
  refine (CU.out _).mono ?_
  rintro e w6 ⟨rfl, x6⟩
  have X6 : Hid (Ext w2 w6) := hid (ext_trans X5.out x6)
  clear x6
  go_simp
  refine hK.out _ _ (KEEP.out _ X6.out) ?_
  clear hK K
  try simp only [Act.put, lsa, lsb, lsc]
  have ht : ¬ tl ≤ now := by have := HT.out; omega
  refine EG_take 11 (v := ?v14) (by simp only [lga, lgb, lgc]; rfl) (by kernel_rfl) (by kernel_rfl) (by decide) (fun _ _ _ h => h) (Or.inl ⟨by rfl, ?hy14⟩) (KEEP.out _ X6.out) ?rest14
  case hy14 => intro W hSW; (try dsimp only at hSW); skip; go_simp <;> with_reducible rfl
  try simp only [Act.put, lsa, lsb, lsc]
  refine EG_end (by kernel_rfl) (by simp only [lga, lgb, lgc]; rfl) ?_
  intro K hK0
  have hK := hid hK0
  clear hK0
  go_simp
  refine hK.out _ _ ?_
  clear hK K
  refine NoPanic.normal ?_
  go_wp2_with fail
  refine (CO.out _ (ext_trans XW.out X6.out)).mono ?_
  rintro e w7 ⟨rfl, x7⟩
  have X7 := hid (ext_trans X6.out x7)
  clear x7
  rw [htv]
  have hft2 := field_thing (str r.n) r.k tt tv w7
  go_wp2_with fail
  go_ret
  exact ⟨by rw [htv]; rfl, ext_trans XW.out X7.out⟩
end
end Go.Proofs.Ytcddfenhkljpeaa

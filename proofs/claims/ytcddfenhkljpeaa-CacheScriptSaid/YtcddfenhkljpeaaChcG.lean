import Derived.Test.YtcddfenhkljpeaaChcF
/- Layer 23: use. (Printed by gen_chcg.py.) -/
namespace Go.Proofs.Ytcddfenhkljpeaa
open Go.BK Go.BK.CH Go.BK.NM Go.RowKit Go.Maps
set_option linter.unusedVariables false
set_option linter.unusedSimpArgs false
section
variable {w w' w5 w6 : World} {g og mb : Nat} {most now : Int} {R P1 P2 : List Row} {r : Row}
theorem tabC_back (hwf : ∀ s ∈ P1 ++ r :: P2, wfN s.n s.k) (hd : DiffR (P1 ++ r :: P2)) (x : Lit) : tabC (P1 ++ P2 ++ [r]) x = tabC (P1 ++ r :: P2) x := by
  have hd2 := hd
  unfold DiffR at hd2
  rw [List.pairwise_append, List.pairwise_cons] at hd2
  have hno : ∀ s ∈ P1 ++ P2, ¬ s.is r.n r.k := fun s hs => by
    rcases List.mem_append.1 hs with hs | hs
    · exact hd2.2.2 s hs r (by simp)
    · exact fun e => hd2.2.1.1 s hs ⟨e.1.symm, e.2.symm⟩
  rw [tabC_put (fun s hs => hwf s (by rcases List.mem_append.1 hs with hs | hs <;> simp [hs])) (hwf r (by simp)) hno x]
  unfold putF
  by_cases h : x = kl (str r.n) r.k
  · rw [if_pos h, h, tabC_at hwf hd]
  · rw [if_neg h, tabC_gone hwf hd x]
    unfold delF
    rw [if_neg h]
theorem diff_back (hd : DiffR (P1 ++ r :: P2)) : DiffR (P1 ++ P2 ++ [r]) := by
  unfold DiffR at hd ⊢
  rw [List.pairwise_append, List.pairwise_cons] at hd
  rw [List.pairwise_append, List.pairwise_append]
  refine ⟨⟨hd.1, hd.2.1.2, fun a ha b hb => hd.2.2 a ha b (by simp [hb])⟩, List.pairwise_singleton _ _, fun a ha b hb => ?_⟩
  rw [List.mem_singleton] at hb
  subst hb
  rcases List.mem_append.1 ha with ha | ha
  · exact hd.2.2 a ha b (by simp)
  · exact fun e => hd.2.1.1 a ha ⟨e.1.symm, e.2.symm⟩
theorem CacM.back (h : CacM w g og mb most now (P1 ++ r :: P2)) (hwf : ∀ s ∈ P1 ++ r :: P2, wfN s.n s.k) (hd : DiffR (P1 ++ r :: P2))
    (ring : RingB w6 og ((P1 ++ P2 ++ [r]).map eltC)) (s2 : Shy (fun k => k = og ∨ k ∈ ((P1 ++ r :: P2).map eltC).map Prod.fst) w w6) : CacM w6 g og mb most now (P1 ++ P2 ++ [r]) ∧ Shy (wrC g og mb (P1 ++ r :: P2)) w w6 := by
  obtain ⟨n1, n2, n3, n4, n5⟩ := h.ne
  have hel : ∀ k, k ∈ ((P1 ++ r :: P2).map eltC).map Prod.fst → ∃ s ∈ P1 ++ r :: P2, s.b = k := fun k hk => by
    obtain ⟨y, hy, rfl⟩ := List.mem_map.1 hk
    exact mem_elt hy
  have hsub : ∀ s ∈ P1 ++ P2 ++ [r], s ∈ P1 ++ r :: P2 := fun s hs => by
    simp only [List.mem_append, List.mem_singleton, List.mem_cons] at hs ⊢
    simp only [List.not_mem_nil, or_false] at hs
    rcases hs with (hs | hs) | hs
    · exact .inl hs
    · exact .inr (.inr hs)
    · exact .inr (.inl hs)
  have hlen : (P1 ++ r :: P2).length = (P1 ++ P2 ++ [r]).length := by simp <;> omega
  refine ⟨⟨h.1.shy s2 (fun e => ?_), ring, ?_, fun s hs => s2.ownG (h.2.2.2 s (hsub s hs)) (fun k hk e => ?_)⟩, ?_⟩
  · rcases e with e | e
    · exact n1 e
    · obtain ⟨s, hs, e2⟩ := hel _ e
      exact (n4 s hs).1 e2
  · rw [← hlen]
    refine (shy_mapF s2 h.2.2.1 (fun e => ?_)).congr (fun x => tabC_back hwf hd x)
    rcases e with e | e
    · exact n3 e.symm
    · obtain ⟨s, hs, e2⟩ := hel _ e
      exact (n4 s hs).2.2 e2
  · rcases e with e | e
    · exact (n5 s (hsub s hs)).2.1 (e ▸ hk)
    · obtain ⟨s2, hs2, e2⟩ := hel _ e
      exact (n5 s (hsub s hs)).2.2.2 s2 hs2 (by rw [e2]; exact hk)
  · refine s2.mono (fun k _ e => ?_)
    rcases e with e | e
    · exact .inr (.inl e)
    · exact .inr (.inr (.inr (hel k e)))
def backR (P1 P2 : List Row) (r : Row) : List Row := P1 ++ P2 ++ [r]
theorem own_back {k : Nat} (h : ownsC g og mb (P1 ++ P2 ++ [r]) k) : ownsC g og mb (P1 ++ r :: P2) k := by
  have hsub : ∀ s ∈ P1 ++ P2 ++ [r], s ∈ P1 ++ r :: P2 := fun s hs => by
    simp only [List.mem_append, List.mem_singleton, List.mem_cons] at hs ⊢
    simp only [List.not_mem_nil, or_false] at hs
    rcases hs with (hs | hs) | hs
    · exact .inl hs
    · exact .inr (.inr hs)
    · exact .inr (.inl hs)
  rcases h with h | h | h | ⟨s, hs, h⟩ | ⟨s, hs, h⟩
  · exact .inl h
  · exact .inr (.inl h)
  · exact .inr (.inr (.inl h))
  · exact .inr (.inr (.inr (.inl ⟨s, hsub s hs, h⟩)))
  · exact .inr (.inr (.inr (.inr ⟨s, hsub s hs, h⟩)))
theorem sub_nums (tl now : Int) (hn : 0 ≤ now ∧ now ≤ 1099511627776) (htl : 0 ≤ tl ∧ tl ≤ 2199023255552) : ∃ lf, IntKind.i64.wrap (tl - now) = lf ∧ wrap64 (tl - now) = lf ∧ lf = tl - now := ⟨_, IntWalk.i64_in _ (by omega), IntWalk.wrap64_in _ (by omega), rfl⟩
theorem assert_none (v : Value) (W : World) : (Instr.typeAssert (.iface 82 v) 79 84 true).run Try.prog W = .ok (.tuple #[.agg #[.string ⟨#[]⟩, .int .i64 0, .int .i64 0, .int .i64 0, .slice none 0 0, .int .i64 0, .int .i64 0], .bool false]) W := by kernel_rfl
theorem assert_known (v : Value) (W : World) : (Instr.typeAssert (.iface 84 v) 79 84 true).run Try.prog W = .ok (.tuple #[v, .bool true]) W := by kernel_rfl
set_option maxHeartbeats 4000000 in
set_option maxRecDepth 100000 in
theorem use_none (h : CacM w g og mb most now (P1 ++ r :: P2)) (hwf : ∀ s ∈ P1 ++ r :: P2, wfN s.n s.k) (hd : DiffR (P1 ++ r :: P2)) {e0 : Int} (hx : r.x = .none e0) (hn : 0 ≤ now ∧ now ≤ 1099511627776) (htl : 0 ≤ r.x.till ∧ r.x.till ≤ 2199023255552) :
    Calls Try.prog 43 #[pt g, .agg #[.string (str r.n), .int .i64 r.k], thV r.x r.A r.c] w fun e w' => e = .returned (.agg #[.int .i64 (if r.k = 0 then 3 else 2), .string ⟨#[]⟩, .int .i64 0, .int .i64 0, .int .i64 0, .slice none 0 0, .int .i64 (r.x.till - now)]) ∧ CacM w' g og mb most now (backR P1 P2 r) ∧ Shy (wrC g og mb (P1 ++ r :: P2)) w w' := by
  have hkr : wfN r.n r.k := hwf r (by simp)
  have xa := ext_trans (ext_alloc w (.cells #[.string (str r.n), .int .i64 r.k] 77)) (ext_alloc _ (.cells #[.int .i64 0, .string ⟨#[]⟩, .int .i64 0, .int .i64 0, .int .i64 0, .slice none 0 0, .int .i64 0] 37))
  have ba := (Blk.new w 77 #[.string (str r.n), .int .i64 r.k]).ext (ext_alloc _ (.cells #[.int .i64 0, .string ⟨#[]⟩, .int .i64 0, .int .i64 0, .int .i64 0, .slice none 0 0, .int .i64 0] 37))
  have bf := Blk.new (w.alloc (.cells #[.string (str r.n), .int .i64 r.k] 77)) 37 #[.int .i64 0, .string ⟨#[]⟩, .int .i64 0, .int .i64 0, .int .i64 0, .slice none 0 0, .int .i64 0]
  have h2 := h.ext xa
  have hl : ∀ W, Ext ((w.alloc (.cells #[.string (str r.n), .int .i64 r.k] 77)).alloc (.cells #[.int .i64 0, .string ⟨#[]⟩, .int .i64 0, .int .i64 0, .int .i64 0, .slice none 0 0, .int .i64 0] 37)) W → (Instr.lookup 62 (.map (some mb)) (.agg #[.string (str r.n), .int .i64 r.k]) false).run Try.prog W = .ok (.pointer (some ⟨r.b, 0, none⟩)) W := fun W x => by
    have hl := (h2.ext x).2.2.1.look (t := 62) keyed Try.underlying62 (zero_elt W) (kl_key hkr.key) false
    rw [tabC_at hwf hd] at hl
    simpa [pt, kv] using hl
  obtain ⟨wa, hwa⟩ : ∃ wa, (w.alloc (.cells #[.string (str r.n), .int .i64 r.k] 77)).alloc (.cells #[.int .i64 0, .string ⟨#[]⟩, .int .i64 0, .int .i64 0, .int .i64 0, .slice none 0 0, .int .i64 0] 37) = wa := ⟨_, rfl⟩
  obtain ⟨gk, hgk⟩ : ∃ gk, w.heap.size = gk := ⟨_, rfl⟩
  rw [show (w.alloc (.cells #[.string (str r.n), .int .i64 r.k] 77)).heap.size = w.heap.size + 1 from by simp] at bf
  rw [hwa] at xa ba bf h2 hl
  rw [hgk] at ba bf
  have XA := hid xa
  have BA := hid ba
  have BF := hid bf
  have H2 := hid h2
  have HWA := hid hwa
  have HGK := hid hgk
  have HL := hid hl
  have HWF := hid hwf
  have HD := hid hd
  have HH := hid h
  obtain ⟨tt, tv, htv⟩ := thV_if r.x r.A r.c
  obtain ⟨uf, hmeth, hcall, CU⟩ := until_any htv
  obtain ⟨tl, htl'⟩ : ∃ tl, r.x.till = tl := ⟨_, rfl⟩
  rw [htl'] at CU htl ⊢
  have HTL := hid htl'
  have HXX := hid hx
  have CU := hid CU
  have htv2 := htv
  rw [hx] at htv2
  unfold thV at htv2
  injection htv2 with ht1 ht2
  subst ht1
  clear ht2
  have hasr := fun W => assert_none tv W
  have KP1 : Hid (∀ W, Ext wa W → W.cell? ⟨g, 2, none⟩ = some (.pointer (some ⟨og, 0, none⟩)) ∧ W.cell? ⟨g, 3, none⟩ = some (.map (some mb)) ∧ W.cell? ⟨gk, 0, none⟩ = some (.string (str r.n)) ∧ W.cell? ⟨gk, 1, none⟩ = some (.int .i64 r.k) ∧ (Instr.lookup 62 (.map (some mb)) (.agg #[.string (str r.n), .int .i64 r.k]) false).run Try.prog W = .ok (.pointer (some ⟨r.b, 0, none⟩)) W) := hid (fun W x => ⟨(H2.out.ext x).1.cell 2, (H2.out.ext x).1.cell 3, (BA.out.ext x).cell 0, (BA.out.ext x).cell 1, HL.out W x⟩)
  simp only [pt]
  rw [htv]
  clear hx htl'
  clear h h2 xa ba bf hwa hgk hl hwf hd hkr
  go_enter Try.func43, Try.ntmps43
  go_upto_region 1 with (fail)
  rw [HWA.out, HGK.out]
  refine wp_region_noPanic ?_
  refine region_E (S := fun W => W.cell? ⟨g, 2, none⟩ = some (.pointer (some ⟨og, 0, none⟩)) ∧ W.cell? ⟨g, 3, none⟩ = some (.map (some mb)) ∧ W.cell? ⟨gk, 0, none⟩ = some (.string (str r.n)) ∧ W.cell? ⟨gk, 1, none⟩ = some (.int .i64 r.k) ∧ (Instr.lookup 62 (.map (some mb)) (.agg #[.string (str r.n), .int .i64 r.k]) false).run Try.prog W = .ok (.pointer (some ⟨r.b, 0, none⟩)) W) 10 (by kernel_rfl) (by kernel_rfl) (by kernel_rfl) ?_
  refine EG_take 0 (v := ?v1) (by simp only [lga, lgb, lgc]; rfl) (by kernel_rfl) (by kernel_rfl) (by decide) (fun _ _ _ h => h) (Or.inl ⟨by rfl, ?hy1⟩) (KP1.out _ (ext_drew _)) ?rest1
  case hy1 => intro W hSW; (try dsimp only at hSW); obtain ⟨e2, e3, e5, e6, e7⟩ := hSW; go_simp <;> with_reducible rfl
  try simp only [Act.put, lsa, lsb, lsc]
  refine EG_take 1 (v := ?v2) (by simp only [lga, lgb, lgc]; rfl) (by kernel_rfl) (by kernel_rfl) (by decide) (fun _ _ _ h => h) (Or.inl ⟨by rfl, ?hy2⟩) (KP1.out _ (ext_drew _)) ?rest2
  case hy2 => intro W hSW; (try dsimp only at hSW); obtain ⟨e2, e3, e5, e6, e7⟩ := hSW; go_simp <;> with_reducible rfl
  try simp only [Act.put, lsa, lsb, lsc]
  refine EG_take 2 (v := ?v3) (by simp only [lga, lgb, lgc]; rfl) (by kernel_rfl) (by kernel_rfl) (by decide) (fun _ _ _ h => h) (Or.inl ⟨by rfl, ?hy3⟩) (KP1.out _ (ext_drew _)) ?rest3
  case hy3 => intro W hSW; (try dsimp only at hSW); obtain ⟨e2, e3, e5, e6, e7⟩ := hSW; go_simp <;> with_reducible rfl
  try simp only [Act.put, lsa, lsb, lsc]
  refine EG_take 3 (v := ?v4) (by simp only [lga, lgb, lgc]; rfl) (by kernel_rfl) (by kernel_rfl) (by decide) (fun _ _ _ h => h) (Or.inl ⟨by rfl, ?hy4⟩) (KP1.out _ (ext_drew _)) ?rest4
  case hy4 => intro W hSW; (try dsimp only at hSW); obtain ⟨e2, e3, e5, e6, e7⟩ := hSW; go_simp <;> with_reducible rfl
  try simp only [Act.put, lsa, lsb, lsc]
  refine EG_take 4 (v := ?v5) (by simp only [lga, lgb, lgc]; rfl) (by kernel_rfl) (by kernel_rfl) (by decide) (fun _ _ _ h => h) (Or.inl ⟨by rfl, ?hy5⟩) (KP1.out _ (ext_drew _)) ?rest5
  case hy5 => intro W hSW; (try dsimp only at hSW); obtain ⟨e2, e3, e5, e6, e7⟩ := hSW; go_simp <;> with_reducible rfl
  try simp only [Act.put, lsa, lsb, lsc]
  refine EG_take 5 (v := ?v6) (by simp only [lga, lgb, lgc]; rfl) (by kernel_rfl) (by kernel_rfl) (by decide) (fun _ _ _ h => h) (Or.inl ⟨by rfl, ?hy6⟩) (KP1.out _ (ext_drew _)) ?rest6
  case hy6 => intro W hSW; (try dsimp only at hSW); obtain ⟨e2, e3, e5, e6, e7⟩ := hSW; go_simp <;> with_reducible rfl
  try simp only [Act.put, lsa, lsb, lsc]
  refine EG_take 6 (v := ?v7) (by simp only [lga, lgb, lgc]; rfl) (by kernel_rfl) (by kernel_rfl) (by decide) (fun _ _ _ h => h) (Or.inl ⟨by rfl, ?hy7⟩) (KP1.out _ (ext_drew _)) ?rest7
  case hy7 => intro W hSW; (try dsimp only at hSW); obtain ⟨e2, e3, e5, e6, e7⟩ := hSW; go_simp <;> with_reducible rfl
  try simp only [Act.put, lsa, lsb, lsc]
  refine EG_take 7 (v := ?v8) (by simp only [lga, lgb, lgc]; rfl) (by kernel_rfl) (by kernel_rfl) (by decide) (fun _ _ _ h => h) (Or.inl ⟨by rfl, ?hy8⟩) (KP1.out _ (ext_drew _)) ?rest8
  case hy8 => intro W hSW; (try dsimp only at hSW); obtain ⟨e2, e3, e5, e6, e7⟩ := hSW; go_simp <;> with_reducible rfl
  try simp only [Act.put, lsa, lsb, lsc]
  refine EG_take 8 (v := ?v9) (by simp only [lga, lgb, lgc]; rfl) (by kernel_rfl) (by kernel_rfl) (by decide) (fun _ _ _ h => h) (Or.inl ⟨by rfl, ?hy9⟩) (KP1.out _ (ext_drew _)) ?rest9
  case hy9 => intro W hSW; (try dsimp only at hSW); obtain ⟨e2, e3, e5, e6, e7⟩ := hSW; go_simp <;> with_reducible rfl
  try simp only [Act.put, lsa, lsb, lsc]
  refine EG_take 9 (v := ?v10) (by simp only [lga, lgb, lgc]; rfl) (by kernel_rfl) (by kernel_rfl) (by decide) (fun _ _ _ h => h) (Or.inl ⟨by rfl, ?hy10⟩) (KP1.out _ (ext_drew _)) ?rest10
  case hy10 => intro W hSW; (try dsimp only at hSW); obtain ⟨e2, e3, e5, e6, e7⟩ := hSW; go_simp <;> with_reducible rfl
  try simp only [Act.put, lsa, lsb, lsc]
  refine EG_end (by kernel_rfl) (by simp only [lga, lgb, lgc]; rfl) ?_
  intro K hK0
  have hK := hid hK0
  clear hK0
  have rg := (H2.out.ext (ext_drew wa)).2.1
  rw [List.map_append, List.map_cons] at rg
  have CR := hid (chain_back rg)
  simp only [pt, eltC] at CR
  clear rg
  go_simp
  refine CR.out.mono ?_
  rintro e w3 ⟨rfl, r3, s3⟩
  have fin := (H2.out.ext (ext_drew wa)).back HWF.out HD.out (w6 := w3) (by rw [List.map_append, List.map_append]; exact r3) (by rw [List.map_append, List.map_cons]; exact s3)
  have H3 := hid fin.1
  have S3 : Hid (Shy (wrC g og mb (P1 ++ r :: P2)) wa w3) := hid ((Shy.of_ext (ext_drew wa)).trans fin.2 (fun k _ e => e))
  have hnk : ∀ j, gk ≤ j → ¬ wrC g og mb (P1 ++ r :: P2) j := fun j hj e => by
    have := HH.out.lt e.to
    have := HGK.out
    omega
  have B3 := hid (BA.out.shy S3.out (hnk _ (Nat.le_refl _)))
  have F3 := hid (BF.out.shy S3.out (hnk _ (by omega)))
  clear r3 s3 fin hnk
  go_simp
  refine hK.out _ _ ?_
  clear hK K
  refine NoPanic.normal ?_
  go_upto_region 2 with (fail)
  have KEEP : Hid (∀ W, Ext w3 W → W.cell? ⟨g, 1, none⟩ = some (.int .i64 now)) := hid (fun W x => (H3.out.ext x).1.cell 1)
  refine wp_region_noPanic ?_
  refine region_E (S := fun W => W.cell? ⟨g, 1, none⟩ = some (.int .i64 now)) 7 (by kernel_rfl) (by kernel_rfl) (by kernel_rfl) ?_
  refine EG_take 0 (v := ?v11) (by simp only [lga, lgb, lgc]; rfl) (by kernel_rfl) (by kernel_rfl) (by decide) (fun _ _ _ h => h) (Or.inl ⟨by rfl, ?hy11⟩) (KEEP.out _ (ext_drew _)) ?rest11
  case hy11 => intro W hSW; (try dsimp only at hSW); skip; go_simp <;> with_reducible rfl
  try simp only [Act.put, lsa, lsb, lsc]
  refine EG_take 2 (v := ?v12) (by simp only [lga, lgb, lgc]; rfl) (by kernel_rfl) (by kernel_rfl) (by decide) (fun _ _ _ h => h) (Or.inl ⟨by rfl, ?hy12⟩) (KEEP.out _ (ext_drew _)) ?rest12
  case hy12 => intro W hSW; (try dsimp only at hSW); skip; go_simp <;> with_reducible rfl
  try simp only [Act.put, lsa, lsb, lsc]
  refine EG_take 3 (v := ?v13) (by simp only [lga, lgb, lgc]; rfl) (by kernel_rfl) (by kernel_rfl) (by decide) (fun _ _ _ h => h) (Or.inl ⟨by rfl, ?hy13⟩) (KEEP.out _ (ext_drew _)) ?rest13
  case hy13 => intro W hSW; (try dsimp only at hSW); skip; go_simp <;> with_reducible rfl
  try simp only [Act.put, lsa, lsb, lsc]
  refine EG_take 4 (v := ?v14) (by simp only [lga, lgb, lgc]; rfl) (by kernel_rfl) (by kernel_rfl) (by decide) (fun _ _ _ h => h) (Or.inl ⟨by rfl, ?hy14⟩) (KEEP.out _ (ext_drew _)) ?rest14
  case hy14 => intro W hSW; (try dsimp only at hSW); skip; go_simp <;> with_reducible rfl
  try simp only [Act.put, lsa, lsb, lsc]
  refine EG_take 5 (v := ?v15) (by simp only [lga, lgb, lgc]; rfl) (by kernel_rfl) (by kernel_rfl) (by decide) (fun _ _ _ h => h) (Or.inl ⟨by rfl, ?hy15⟩) (KEEP.out _ (ext_drew _)) ?rest15
  case hy15 => intro W hSW; (try dsimp only at hSW); skip; go_simp <;> with_reducible rfl
  try simp only [Act.put, lsa, lsb, lsc]
  refine EG_one 1 (by kernel_rfl) (by simp only [lga, lgb, lgc]; rfl) (by decide) ?_
  intro K hK0
  have hK := hid hK0
  clear hK0
  go_simp
  refine (CU.out _).mono ?_
  rintro e w4 ⟨rfl, x4⟩
  have X4 : Hid (Ext w3 w4) := hid (ext_trans (ext_drew _) x4)
  clear x4
  obtain ⟨lf, hw63, hw64, hlf⟩ := sub_nums tl now hn htl
  have HLF := hid hlf
  clear hlf
  go_simp
  refine hK.out _ _ (KEEP.out _ X4.out) ?_
  clear hK K
  try simp only [Act.put, lsa, lsb, lsc]
  refine EG_take 6 (v := ?v16) (by simp only [lga, lgb, lgc]; rfl) (by kernel_rfl) (by kernel_rfl) (by decide) (fun _ _ _ h => h) (Or.inl ⟨by rfl, ?hy16⟩) (KEEP.out _ X4.out) ?rest16
  case hy16 => intro W hSW; (try dsimp only at hSW); skip; go_simp <;> with_reducible rfl
  try simp only [Act.put, lsa, lsb, lsc]
  refine EG_end (by kernel_rfl) (by simp only [lga, lgb, lgc]; rfl) ?_
  intro K hK0
  have hK := hid hK0
  clear hK0
  go_simp
  refine hK.out _ _ ?_
  clear hK K
  refine NoPanic.normal ?_
  have H4 := hid (H3.out.ext X4.out)
  have F4 := hid (F3.out.ext X4.out)
  have c1 : w4.cell? ⟨gk, 1, none⟩ = some (.int .i64 r.k) := (B3.out.ext X4.out).cell 1
  have S4 : Hid (Shy (wrC g og mb (P1 ++ r :: P2)) w w4) := hid (((Shy.of_ext XA.out).trans S3.out (fun k _ e => e)).ext X4.out)
  have r0 := F4.out.cell
  have rf := F4.out.frozen
  by_cases hk0 : r.k = 0
  · have hk1 : (r.k == 0) = true := by simpa using hk0
    go_wp2_with fail
    refine bodyPost_ret (v := .agg #[.int .i64 3, .string ⟨#[]⟩, .int .i64 0, .int .i64 0, .int .i64 0, .slice none 0 0, .int .i64 lf]) (by simp [results, Try.results43, go_sem, r0]) rfl ?_
    have sh9 : Shy (fun k => k = gk + 1) w4 (((((((w4.setCell ⟨gk + 1, 0, none⟩ (.int .i64 3)).setCell ⟨gk + 1, 1, none⟩ (.string ⟨#[]⟩)).setCell ⟨gk + 1, 2, none⟩ (.int .i64 0)).setCell ⟨gk + 1, 3, none⟩ (.int .i64 0)).setCell ⟨gk + 1, 4, none⟩ (.int .i64 0)).setCell ⟨gk + 1, 5, none⟩ (.slice none 0 0)).setCell ⟨gk + 1, 6, none⟩ (.int .i64 lf)) := (((((((Shy.refl (U := fun k => k = gk + 1) w4).set (b := gk + 1) (fun _ => rfl) 0 _).set (b := gk + 1) (fun _ => rfl) 1 _).set (b := gk + 1) (fun _ => rfl) 2 _).set (b := gk + 1) (fun _ => rfl) 3 _).set (b := gk + 1) (fun _ => rfl) 4 _).set (b := gk + 1) (fun _ => rfl) 5 _).set (b := gk + 1) (fun _ => rfl) 6 _
    have hnk : ∀ j, ownsC g og mb (P1 ++ P2 ++ [r]) j → ¬ j = gk + 1 := fun j hj e => by
      have h1 := HH.out.lt (own_back hj)
      have := HGK.out
      omega
    refine ⟨by first | (rw [HLF.out]; done) | (rw [HLF.out]; simp [hk0]), H4.out.shy sh9 hnk, S4.out.trans sh9 (fun j hj e => by have := HGK.out; omega)⟩
  · have hk1 : (r.k == 0) = false := by simpa using hk0
    go_wp2_with fail
    refine bodyPost_ret (v := .agg #[.int .i64 2, .string ⟨#[]⟩, .int .i64 0, .int .i64 0, .int .i64 0, .slice none 0 0, .int .i64 lf]) (by simp [results, Try.results43, go_sem, r0]) rfl ?_
    have sh9 : Shy (fun k => k = gk + 1) w4 (((((((w4.setCell ⟨gk + 1, 0, none⟩ (.int .i64 2)).setCell ⟨gk + 1, 1, none⟩ (.string ⟨#[]⟩)).setCell ⟨gk + 1, 2, none⟩ (.int .i64 0)).setCell ⟨gk + 1, 3, none⟩ (.int .i64 0)).setCell ⟨gk + 1, 4, none⟩ (.int .i64 0)).setCell ⟨gk + 1, 5, none⟩ (.slice none 0 0)).setCell ⟨gk + 1, 6, none⟩ (.int .i64 lf)) := (((((((Shy.refl (U := fun k => k = gk + 1) w4).set (b := gk + 1) (fun _ => rfl) 0 _).set (b := gk + 1) (fun _ => rfl) 1 _).set (b := gk + 1) (fun _ => rfl) 2 _).set (b := gk + 1) (fun _ => rfl) 3 _).set (b := gk + 1) (fun _ => rfl) 4 _).set (b := gk + 1) (fun _ => rfl) 5 _).set (b := gk + 1) (fun _ => rfl) 6 _
    have hnk : ∀ j, ownsC g og mb (P1 ++ P2 ++ [r]) j → ¬ j = gk + 1 := fun j hj e => by
      have h1 := HH.out.lt (own_back hj)
      have := HGK.out
      omega
    refine ⟨by first | (rw [HLF.out]; done) | (rw [HLF.out]; simp [hk0]), H4.out.shy sh9 hnk, S4.out.trans sh9 (fun j hj e => by have := HGK.out; omega)⟩
def UseD (w w' : World) (g og mb : Nat) (most now : Int) (P1 P2 : List Row) (r : Row) (s : SetS) (left : Int) (e : Ending) : Prop :=
  ∃ A' c', e = .returned (.agg #[.int .i64 1, .string (str s.nm), .int .i64 s.ty, .int .i64 s.cl, .int .i64 left, .slice A' s.data.length c', .int .i64 left]) ∧ OwnG isT w' w.heap.size 9 1 A' s.data.length c' (tvs s.data) ∧ CacM w' g og mb most now (backR P1 P2 r) ∧ Shy (wrC g og mb (P1 ++ r :: P2)) w w'
set_option maxHeartbeats 4000000 in
set_option maxRecDepth 100000 in
theorem use_known (h : CacM w g og mb most now (P1 ++ r :: P2)) (hwf : ∀ s ∈ P1 ++ r :: P2, wfN s.n s.k) (hd : DiffR (P1 ++ r :: P2)) {s : SetS} {rank e0 : Int} (hx : r.x = .known s rank e0) (hsl : 1 ≤ s.data.length ∧ s.data.length ≤ 64) (hn : 0 ≤ now ∧ now ≤ 1099511627776) (htl : 0 ≤ r.x.till ∧ r.x.till ≤ 2199023255552) :
    Calls Try.prog 43 #[pt g, .agg #[.string (str r.n), .int .i64 r.k], thV r.x r.A r.c] w fun e w' => UseD w w' g og mb most now P1 P2 r s (r.x.till - now) e := by
  have hkr : wfN r.n r.k := hwf r (by simp)
  have xa := ext_trans (ext_alloc w (.cells #[.string (str r.n), .int .i64 r.k] 77)) (ext_alloc _ (.cells #[.int .i64 0, .string ⟨#[]⟩, .int .i64 0, .int .i64 0, .int .i64 0, .slice none 0 0, .int .i64 0] 37))
  have ba := (Blk.new w 77 #[.string (str r.n), .int .i64 r.k]).ext (ext_alloc _ (.cells #[.int .i64 0, .string ⟨#[]⟩, .int .i64 0, .int .i64 0, .int .i64 0, .slice none 0 0, .int .i64 0] 37))
  have bf := Blk.new (w.alloc (.cells #[.string (str r.n), .int .i64 r.k] 77)) 37 #[.int .i64 0, .string ⟨#[]⟩, .int .i64 0, .int .i64 0, .int .i64 0, .slice none 0 0, .int .i64 0]
  have h2 := h.ext xa
  have hl : ∀ W, Ext ((w.alloc (.cells #[.string (str r.n), .int .i64 r.k] 77)).alloc (.cells #[.int .i64 0, .string ⟨#[]⟩, .int .i64 0, .int .i64 0, .int .i64 0, .slice none 0 0, .int .i64 0] 37)) W → (Instr.lookup 62 (.map (some mb)) (.agg #[.string (str r.n), .int .i64 r.k]) false).run Try.prog W = .ok (.pointer (some ⟨r.b, 0, none⟩)) W := fun W x => by
    have hl := (h2.ext x).2.2.1.look (t := 62) keyed Try.underlying62 (zero_elt W) (kl_key hkr.key) false
    rw [tabC_at hwf hd] at hl
    simpa [pt, kv] using hl
  obtain ⟨wa, hwa⟩ : ∃ wa, (w.alloc (.cells #[.string (str r.n), .int .i64 r.k] 77)).alloc (.cells #[.int .i64 0, .string ⟨#[]⟩, .int .i64 0, .int .i64 0, .int .i64 0, .slice none 0 0, .int .i64 0] 37) = wa := ⟨_, rfl⟩
  obtain ⟨gk, hgk⟩ : ∃ gk, w.heap.size = gk := ⟨_, rfl⟩
  rw [show (w.alloc (.cells #[.string (str r.n), .int .i64 r.k] 77)).heap.size = w.heap.size + 1 from by simp] at bf
  rw [hwa] at xa ba bf h2 hl
  rw [hgk] at ba bf
  have XA := hid xa
  have BA := hid ba
  have BF := hid bf
  have H2 := hid h2
  have HWA := hid hwa
  have HGK := hid hgk
  have HL := hid hl
  have HWF := hid hwf
  have HD := hid hd
  have HH := hid h
  obtain ⟨tt, tv, htv⟩ := thV_if r.x r.A r.c
  obtain ⟨uf, hmeth, hcall, CU⟩ := until_any htv
  obtain ⟨tl, htl'⟩ : ∃ tl, r.x.till = tl := ⟨_, rfl⟩
  rw [htl'] at CU htl ⊢
  have HTL := hid htl'
  have HXX := hid hx
  have CU := hid CU
  obtain ⟨sn, hsn⟩ : ∃ sn, s.data.length = sn := ⟨_, rfl⟩
  have htv2 := htv
  rw [hx] at htv2
  unfold thV at htv2
  injection htv2 with ht1 ht2
  subst ht1
  rw [hsn] at ht2 hsl
  subst ht2
  have hasr := fun W => assert_known (.agg #[.string (str s.nm), .int .i64 s.ty, .int .i64 s.cl, .int .i64 s.ttl, .slice r.A sn r.c, .int .i64 rank, .int .i64 e0]) W
  have HSN := hid hsn
  clear hsn
  have KP1 : Hid (∀ W, Ext wa W → W.cell? ⟨g, 2, none⟩ = some (.pointer (some ⟨og, 0, none⟩)) ∧ W.cell? ⟨g, 3, none⟩ = some (.map (some mb)) ∧ W.cell? ⟨gk, 0, none⟩ = some (.string (str r.n)) ∧ W.cell? ⟨gk, 1, none⟩ = some (.int .i64 r.k) ∧ (Instr.lookup 62 (.map (some mb)) (.agg #[.string (str r.n), .int .i64 r.k]) false).run Try.prog W = .ok (.pointer (some ⟨r.b, 0, none⟩)) W) := hid (fun W x => ⟨(H2.out.ext x).1.cell 2, (H2.out.ext x).1.cell 3, (BA.out.ext x).cell 0, (BA.out.ext x).cell 1, HL.out W x⟩)
  simp only [pt]
  rw [htv]
  clear hx htl'
  clear h h2 xa ba bf hwa hgk hl hwf hd hkr
  go_enter Try.func43, Try.ntmps43
  go_upto_region 1 with (fail)
  rw [HWA.out, HGK.out]
  refine wp_region_noPanic ?_
  refine region_E (S := fun W => W.cell? ⟨g, 2, none⟩ = some (.pointer (some ⟨og, 0, none⟩)) ∧ W.cell? ⟨g, 3, none⟩ = some (.map (some mb)) ∧ W.cell? ⟨gk, 0, none⟩ = some (.string (str r.n)) ∧ W.cell? ⟨gk, 1, none⟩ = some (.int .i64 r.k) ∧ (Instr.lookup 62 (.map (some mb)) (.agg #[.string (str r.n), .int .i64 r.k]) false).run Try.prog W = .ok (.pointer (some ⟨r.b, 0, none⟩)) W) 10 (by kernel_rfl) (by kernel_rfl) (by kernel_rfl) ?_
  refine EG_take 0 (v := ?v1) (by simp only [lga, lgb, lgc]; rfl) (by kernel_rfl) (by kernel_rfl) (by decide) (fun _ _ _ h => h) (Or.inl ⟨by rfl, ?hy1⟩) (KP1.out _ (ext_drew _)) ?rest1
  case hy1 => intro W hSW; (try dsimp only at hSW); obtain ⟨e2, e3, e5, e6, e7⟩ := hSW; go_simp <;> with_reducible rfl
  try simp only [Act.put, lsa, lsb, lsc]
  refine EG_take 1 (v := ?v2) (by simp only [lga, lgb, lgc]; rfl) (by kernel_rfl) (by kernel_rfl) (by decide) (fun _ _ _ h => h) (Or.inl ⟨by rfl, ?hy2⟩) (KP1.out _ (ext_drew _)) ?rest2
  case hy2 => intro W hSW; (try dsimp only at hSW); obtain ⟨e2, e3, e5, e6, e7⟩ := hSW; go_simp <;> with_reducible rfl
  try simp only [Act.put, lsa, lsb, lsc]
  refine EG_take 2 (v := ?v3) (by simp only [lga, lgb, lgc]; rfl) (by kernel_rfl) (by kernel_rfl) (by decide) (fun _ _ _ h => h) (Or.inl ⟨by rfl, ?hy3⟩) (KP1.out _ (ext_drew _)) ?rest3
  case hy3 => intro W hSW; (try dsimp only at hSW); obtain ⟨e2, e3, e5, e6, e7⟩ := hSW; go_simp <;> with_reducible rfl
  try simp only [Act.put, lsa, lsb, lsc]
  refine EG_take 3 (v := ?v4) (by simp only [lga, lgb, lgc]; rfl) (by kernel_rfl) (by kernel_rfl) (by decide) (fun _ _ _ h => h) (Or.inl ⟨by rfl, ?hy4⟩) (KP1.out _ (ext_drew _)) ?rest4
  case hy4 => intro W hSW; (try dsimp only at hSW); obtain ⟨e2, e3, e5, e6, e7⟩ := hSW; go_simp <;> with_reducible rfl
  try simp only [Act.put, lsa, lsb, lsc]
  refine EG_take 4 (v := ?v5) (by simp only [lga, lgb, lgc]; rfl) (by kernel_rfl) (by kernel_rfl) (by decide) (fun _ _ _ h => h) (Or.inl ⟨by rfl, ?hy5⟩) (KP1.out _ (ext_drew _)) ?rest5
  case hy5 => intro W hSW; (try dsimp only at hSW); obtain ⟨e2, e3, e5, e6, e7⟩ := hSW; go_simp <;> with_reducible rfl
  try simp only [Act.put, lsa, lsb, lsc]
  refine EG_take 5 (v := ?v6) (by simp only [lga, lgb, lgc]; rfl) (by kernel_rfl) (by kernel_rfl) (by decide) (fun _ _ _ h => h) (Or.inl ⟨by rfl, ?hy6⟩) (KP1.out _ (ext_drew _)) ?rest6
  case hy6 => intro W hSW; (try dsimp only at hSW); obtain ⟨e2, e3, e5, e6, e7⟩ := hSW; go_simp <;> with_reducible rfl
  try simp only [Act.put, lsa, lsb, lsc]
  refine EG_take 6 (v := ?v7) (by simp only [lga, lgb, lgc]; rfl) (by kernel_rfl) (by kernel_rfl) (by decide) (fun _ _ _ h => h) (Or.inl ⟨by rfl, ?hy7⟩) (KP1.out _ (ext_drew _)) ?rest7
  case hy7 => intro W hSW; (try dsimp only at hSW); obtain ⟨e2, e3, e5, e6, e7⟩ := hSW; go_simp <;> with_reducible rfl
  try simp only [Act.put, lsa, lsb, lsc]
  refine EG_take 7 (v := ?v8) (by simp only [lga, lgb, lgc]; rfl) (by kernel_rfl) (by kernel_rfl) (by decide) (fun _ _ _ h => h) (Or.inl ⟨by rfl, ?hy8⟩) (KP1.out _ (ext_drew _)) ?rest8
  case hy8 => intro W hSW; (try dsimp only at hSW); obtain ⟨e2, e3, e5, e6, e7⟩ := hSW; go_simp <;> with_reducible rfl
  try simp only [Act.put, lsa, lsb, lsc]
  refine EG_take 8 (v := ?v9) (by simp only [lga, lgb, lgc]; rfl) (by kernel_rfl) (by kernel_rfl) (by decide) (fun _ _ _ h => h) (Or.inl ⟨by rfl, ?hy9⟩) (KP1.out _ (ext_drew _)) ?rest9
  case hy9 => intro W hSW; (try dsimp only at hSW); obtain ⟨e2, e3, e5, e6, e7⟩ := hSW; go_simp <;> with_reducible rfl
  try simp only [Act.put, lsa, lsb, lsc]
  refine EG_take 9 (v := ?v10) (by simp only [lga, lgb, lgc]; rfl) (by kernel_rfl) (by kernel_rfl) (by decide) (fun _ _ _ h => h) (Or.inl ⟨by rfl, ?hy10⟩) (KP1.out _ (ext_drew _)) ?rest10
  case hy10 => intro W hSW; (try dsimp only at hSW); obtain ⟨e2, e3, e5, e6, e7⟩ := hSW; go_simp <;> with_reducible rfl
  try simp only [Act.put, lsa, lsb, lsc]
  refine EG_end (by kernel_rfl) (by simp only [lga, lgb, lgc]; rfl) ?_
  intro K hK0
  have hK := hid hK0
  clear hK0
  have rg := (H2.out.ext (ext_drew wa)).2.1
  rw [List.map_append, List.map_cons] at rg
  have CR := hid (chain_back rg)
  simp only [pt, eltC] at CR
  clear rg
  go_simp
  refine CR.out.mono ?_
  rintro e w3 ⟨rfl, r3, s3⟩
  have fin := (H2.out.ext (ext_drew wa)).back HWF.out HD.out (w6 := w3) (by rw [List.map_append, List.map_append]; exact r3) (by rw [List.map_append, List.map_cons]; exact s3)
  have H3 := hid fin.1
  have S3 : Hid (Shy (wrC g og mb (P1 ++ r :: P2)) wa w3) := hid ((Shy.of_ext (ext_drew wa)).trans fin.2 (fun k _ e => e))
  have hnk : ∀ j, gk ≤ j → ¬ wrC g og mb (P1 ++ r :: P2) j := fun j hj e => by
    have := HH.out.lt e.to
    have := HGK.out
    omega
  have B3 := hid (BA.out.shy S3.out (hnk _ (Nat.le_refl _)))
  have F3 := hid (BF.out.shy S3.out (hnk _ (by omega)))
  clear r3 s3 fin hnk
  go_simp
  refine hK.out _ _ ?_
  clear hK K
  refine NoPanic.normal ?_
  go_upto_region 2 with (fail)
  have KEEP : Hid (∀ W, Ext w3 W → W.cell? ⟨g, 1, none⟩ = some (.int .i64 now)) := hid (fun W x => (H3.out.ext x).1.cell 1)
  refine wp_region_noPanic ?_
  refine region_E (S := fun W => W.cell? ⟨g, 1, none⟩ = some (.int .i64 now)) 7 (by kernel_rfl) (by kernel_rfl) (by kernel_rfl) ?_
  refine EG_take 0 (v := ?v11) (by simp only [lga, lgb, lgc]; rfl) (by kernel_rfl) (by kernel_rfl) (by decide) (fun _ _ _ h => h) (Or.inl ⟨by rfl, ?hy11⟩) (KEEP.out _ (ext_drew _)) ?rest11
  case hy11 => intro W hSW; (try dsimp only at hSW); skip; go_simp <;> with_reducible rfl
  try simp only [Act.put, lsa, lsb, lsc]
  refine EG_take 2 (v := ?v12) (by simp only [lga, lgb, lgc]; rfl) (by kernel_rfl) (by kernel_rfl) (by decide) (fun _ _ _ h => h) (Or.inl ⟨by rfl, ?hy12⟩) (KEEP.out _ (ext_drew _)) ?rest12
  case hy12 => intro W hSW; (try dsimp only at hSW); skip; go_simp <;> with_reducible rfl
  try simp only [Act.put, lsa, lsb, lsc]
  refine EG_take 3 (v := ?v13) (by simp only [lga, lgb, lgc]; rfl) (by kernel_rfl) (by kernel_rfl) (by decide) (fun _ _ _ h => h) (Or.inl ⟨by rfl, ?hy13⟩) (KEEP.out _ (ext_drew _)) ?rest13
  case hy13 => intro W hSW; (try dsimp only at hSW); skip; go_simp <;> with_reducible rfl
  try simp only [Act.put, lsa, lsb, lsc]
  refine EG_take 4 (v := ?v14) (by simp only [lga, lgb, lgc]; rfl) (by kernel_rfl) (by kernel_rfl) (by decide) (fun _ _ _ h => h) (Or.inl ⟨by rfl, ?hy14⟩) (KEEP.out _ (ext_drew _)) ?rest14
  case hy14 => intro W hSW; (try dsimp only at hSW); skip; go_simp <;> with_reducible rfl
  try simp only [Act.put, lsa, lsb, lsc]
  refine EG_take 5 (v := ?v15) (by simp only [lga, lgb, lgc]; rfl) (by kernel_rfl) (by kernel_rfl) (by decide) (fun _ _ _ h => h) (Or.inl ⟨by rfl, ?hy15⟩) (KEEP.out _ (ext_drew _)) ?rest15
  case hy15 => intro W hSW; (try dsimp only at hSW); skip; go_simp <;> with_reducible rfl
  try simp only [Act.put, lsa, lsb, lsc]
  refine EG_one 1 (by kernel_rfl) (by simp only [lga, lgb, lgc]; rfl) (by decide) ?_
  intro K hK0
  have hK := hid hK0
  clear hK0
  go_simp
  refine (CU.out _).mono ?_
  rintro e w4 ⟨rfl, x4⟩
  have X4 : Hid (Ext w3 w4) := hid (ext_trans (ext_drew _) x4)
  clear x4
  obtain ⟨lf, hw63, hw64, hlf⟩ := sub_nums tl now hn htl
  have HLF := hid hlf
  clear hlf
  go_simp
  refine hK.out _ _ (KEEP.out _ X4.out) ?_
  clear hK K
  try simp only [Act.put, lsa, lsb, lsc]
  refine EG_take 6 (v := ?v16) (by simp only [lga, lgb, lgc]; rfl) (by kernel_rfl) (by kernel_rfl) (by decide) (fun _ _ _ h => h) (Or.inl ⟨by rfl, ?hy16⟩) (KEEP.out _ X4.out) ?rest16
  case hy16 => intro W hSW; (try dsimp only at hSW); skip; go_simp <;> with_reducible rfl
  try simp only [Act.put, lsa, lsb, lsc]
  refine EG_end (by kernel_rfl) (by simp only [lga, lgb, lgc]; rfl) ?_
  intro K hK0
  have hK := hid hK0
  clear hK0
  go_simp
  refine hK.out _ _ ?_
  clear hK K
  refine NoPanic.normal ?_
  have H4 := hid (H3.out.ext X4.out)
  have F4 := hid (F3.out.ext X4.out)
  have c1 : w4.cell? ⟨gk, 1, none⟩ = some (.int .i64 r.k) := (B3.out.ext X4.out).cell 1
  have S4 : Hid (Shy (wrC g og mb (P1 ++ r :: P2)) w w4) := hid (((Shy.of_ext XA.out).trans S3.out (fun k _ e => e)).ext X4.out)
  have r0 := F4.out.cell
  have rf := F4.out.frozen
  have oD : OwnG isT w4 0 9 1 r.A sn r.c (tvs s.data) := by
    have := H4.out.2.2.2 r (by simp)
    rw [HXX.out] at this
    have h2 : OwnG isT w4 0 9 1 r.A s.data.length r.c (tvs s.data) := this
    rw [HSN.out] at h2
    exact h2
  have xy := ext_alloc w4 (.cells #[.string (str s.nm), .int .i64 s.ty, .int .i64 s.cl, .int .i64 s.ttl, .slice r.A sn r.c, .int .i64 rank, .int .i64 e0] 84)
  have xs := ext_alloc (w4.alloc (.cells #[.string (str s.nm), .int .i64 s.ty, .int .i64 s.cl, .int .i64 s.ttl, .slice r.A sn r.c, .int .i64 rank, .int .i64 e0] 84)) (.cells #[.string (str s.nm), .int .i64 s.ty, .int .i64 s.cl, .int .i64 s.ttl, .slice r.A sn r.c] 30)
  have bs := Blk.new (w4.alloc (.cells #[.string (str s.nm), .int .i64 s.ty, .int .i64 s.cl, .int .i64 s.ttl, .slice r.A sn r.c, .int .i64 rank, .int .i64 e0] 84)) 30 #[.string (str s.nm), .int .i64 s.ty, .int .i64 s.cl, .int .i64 s.ttl, .slice r.A sn r.c]
  obtain ⟨w5, hw5⟩ : ∃ w5, (w4.alloc (.cells #[.string (str s.nm), .int .i64 s.ty, .int .i64 s.cl, .int .i64 s.ttl, .slice r.A sn r.c, .int .i64 rank, .int .i64 e0] 84)).alloc (.cells #[.string (str s.nm), .int .i64 s.ty, .int .i64 s.cl, .int .i64 s.ttl, .slice r.A sn r.c] 30) = w5 := ⟨_, rfl⟩
  obtain ⟨gs, hgs⟩ : ∃ gs, w4.heap.size + 1 = gs := ⟨_, rfl⟩
  rw [show (w4.alloc (.cells #[.string (str s.nm), .int .i64 s.ty, .int .i64 s.cl, .int .i64 s.ttl, .slice r.A sn r.c, .int .i64 rank, .int .i64 e0] 84)).heap.size = w4.heap.size + 1 from by simp] at bs
  rw [hw5] at xs bs
  rw [hgs] at bs
  have x5 := ext_trans xy xs
  have RD := oD.rd.ext x5
  have CL := clone_in (L := s.data) (by rw [HSN.out]; exact RD) (by rw [HSN.out]; exact hsl.1) (by rw [HSN.out]; omega)
  rw [HSN.out] at CL
  have CL := hid CL
  have X5 := hid x5
  have BS := hid bs
  have HW5 := hid hw5
  have HGS := hid hgs
  clear oD xy xs bs hw5 hgs x5 RD
  go_upto_region 11 with (fail)
  rw [HW5.out, HGS.out]
  have k4 : w5.cell? ⟨gs, 4, none⟩ = some (.slice r.A sn r.c) := BS.out.cell 4
  clear r0 rf c1
  go_wp2_with fail
  refine CL.out.mono ?_
  rintro e w6 ⟨A', c', rfl, o6, x6⟩
  have b6 := BS.out.ext x6
  have k3 : w6.cell? ⟨gs, 3, none⟩ = some (.int .i64 s.ttl) := b6.cell 3
  have k4' : w6.cell? ⟨gs, 4, none⟩ = some (.slice r.A sn r.c) := b6.cell 4
  have kf := b6.frozen
  have b7 : Blk ((w6.setCell ⟨gs, 3, none⟩ (.int .i64 lf)).setCell ⟨gs, 4, none⟩ (.slice A' sn c')) gs 30 #[.string (str s.nm), .int .i64 s.ty, .int .i64 s.cl, .int .i64 lf, .slice A' sn c'] := by
    have h1 := (b6.set_ 3 (.int .i64 lf)).set_ 4 (.slice A' sn c')
    simpa using h1
  have hgsz : w4.heap.size ≤ gs ∧ gs < w5.heap.size := ⟨by have := HGS.out; omega, BS.out.lt⟩
  have s7 : Shy (fun k => k = gs) w6 ((w6.setCell ⟨gs, 3, none⟩ (.int .i64 lf)).setCell ⟨gs, 4, none⟩ (.slice A' sn c')) := ((Shy.refl (U := fun k => k = gs) w6).set (b := gs) (fun _ => rfl) 3 _).set (b := gs) (fun _ => rfl) 4 _
  obtain ⟨w7, hw7⟩ : ∃ w7, (w6.setCell ⟨gs, 3, none⟩ (.int .i64 lf)).setCell ⟨gs, 4, none⟩ (.slice A' sn c') = w7 := ⟨_, rfl⟩
  rw [hw7] at b7 s7
  have X6 : Hid (Ext w4 w6) := hid (ext_trans X5.out x6)
  have F7 := hid ((F4.out.ext X6.out).shy s7 (fun e => by have := F4.out.lt; omega))
  have H7 := hid ((H4.out.ext X6.out).shy s7 (fun j hj e => by have := H4.out.lt hj; omega))
  have S7 : Hid (Shy (wrC g og mb (P1 ++ r :: P2)) w w7) := hid ((S4.out.ext X6.out).trans s7 (fun j hj e => by have h1 := S4.out.size; omega))
  have O7 : Hid (OwnG isT w7 w5.heap.size 9 1 A' sn c' (tvs s.data)) := hid (s7.ownG o6 (fun k hk e => by have := (o6.lt k hk).1; omega))
  have B7 := hid b7
  have HW7 := hid hw7
  have HGSZ := hid hgsz
  clear o6 x6 b6 b7 s7 hw7 hgsz k4
  go_upto_region 12 with (fail)
  rw [HW7.out]
  have j0 : w7.cell? ⟨gs, 0, none⟩ = some (.string (str s.nm)) := B7.out.cell 0
  have j1 : w7.cell? ⟨gs, 1, none⟩ = some (.int .i64 s.ty) := B7.out.cell 1
  have j2 : w7.cell? ⟨gs, 2, none⟩ = some (.int .i64 s.cl) := B7.out.cell 2
  have j3 : w7.cell? ⟨gs, 3, none⟩ = some (.int .i64 lf) := B7.out.cell 3
  have j4 : w7.cell? ⟨gs, 4, none⟩ = some (.slice A' sn c') := B7.out.cell 4
  have r0 := F7.out.cell
  have rf := F7.out.frozen
  clear k3 k4' kf
  go_wp2_with fail
  refine bodyPost_ret (v := .agg #[.int .i64 1, .string (str s.nm), .int .i64 s.ty, .int .i64 s.cl, .int .i64 lf, .slice A' sn c', .int .i64 lf]) (by simp [results, Try.results43, go_sem, r0]) rfl ?_
  have sh9 : Shy (fun k => k = gk + 1) w7 (((((((w7.setCell ⟨gk + 1, 0, none⟩ (.int .i64 1)).setCell ⟨gk + 1, 1, none⟩ (.string (str s.nm))).setCell ⟨gk + 1, 2, none⟩ (.int .i64 s.ty)).setCell ⟨gk + 1, 3, none⟩ (.int .i64 s.cl)).setCell ⟨gk + 1, 4, none⟩ (.int .i64 lf)).setCell ⟨gk + 1, 5, none⟩ (.slice A' sn c')).setCell ⟨gk + 1, 6, none⟩ (.int .i64 lf)) := (((((((Shy.refl (U := fun k => k = gk + 1) w7).set (b := gk + 1) (fun _ => rfl) 0 _).set (b := gk + 1) (fun _ => rfl) 1 _).set (b := gk + 1) (fun _ => rfl) 2 _).set (b := gk + 1) (fun _ => rfl) 3 _).set (b := gk + 1) (fun _ => rfl) 4 _).set (b := gk + 1) (fun _ => rfl) 5 _).set (b := gk + 1) (fun _ => rfl) 6 _
  have hnk : ∀ j, ownsC g og mb (P1 ++ P2 ++ [r]) j → ¬ j = gk + 1 := fun j hj e => by
    have h1 := HH.out.lt (own_back hj)
    have := HGK.out
    omega
  have hz : w.heap.size ≤ w5.heap.size := by have h1 := S4.out.size; have h2 := X5.out.size; omega
  refine ⟨A', c', (by rw [HSN.out, ← HLF.out]), ?_, H7.out.shy sh9 hnk, S7.out.trans sh9 (fun j hj e => by have := HGK.out; omega)⟩
  rw [HSN.out]
  refine OwnG.mono (sh9.ownG O7.out (fun k hk e => ?_)) hz
  have h1 := (O7.out.lt k hk).1
  have h2 := F4.out.lt
  have h3 := X5.out.size
  omega
end
end Go.Proofs.Ytcddfenhkljpeaa

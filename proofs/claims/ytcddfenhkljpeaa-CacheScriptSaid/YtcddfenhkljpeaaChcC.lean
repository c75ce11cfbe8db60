import Derived.Test.YtcddfenhkljpeaaChcB
import Derived.Test.YtcddfenhkljpeaaKitE
import Derived.BigQuiet
import Derived.Deep.DeepCutAuto
/- Layer 23: out. -/
namespace Go.Proofs.Ytcddfenhkljpeaa
open Go.BK Go.BK.CH Go.BK.NM Go.RowKit Go.Maps
set_option linter.unusedVariables false
set_option linter.unusedSimpArgs false
/-- What a call may write of a cache's. -/
def wrC (g og mb : Nat) (R : List Row) (k : Nat) : Prop := k = g ∨ k = og ∨ k = mb ∨ ∃ r ∈ R, r.b = k
theorem wrC.to {g og mb : Nat} {R : List Row} {k : Nat} (h : wrC g og mb R k) : ownsC g og mb R k := by
  rcases h with h | h | h | h
  · exact .inl h
  · exact .inr (.inl h)
  · exact .inr (.inr (.inl h))
  · exact .inr (.inr (.inr (.inl h)))
section
variable {w w' w5 w6 : World} {g og mb : Nat} {most now : Int} {R P1 P2 : List Row} {r : Row}
theorem CacM.drop (h : CacM w g og mb most now (P1 ++ r :: P2)) (hwf : ∀ s ∈ P1 ++ r :: P2, wfN s.n s.k) (hd : DiffR (P1 ++ r :: P2))
    (m : MapF Try.prog w5 77 mb (delF (tabC (P1 ++ r :: P2)) (kl (str r.n) r.k)) (P1 ++ P2).length) (s1 : Shy (fun k => k = mb) w w5)
    (ring : RingB w6 og ((P1 ++ P2).map eltC)) (s2 : Shy (fun k => k = og ∨ k ∈ ((P1 ++ r :: P2).map eltC).map Prod.fst) w5 w6) : CacM w6 g og mb most now (P1 ++ P2) ∧ Shy (wrC g og mb (P1 ++ r :: P2)) w w6 := by
  obtain ⟨n1, n2, n3, n4, n5⟩ := h.ne
  have hel : ∀ k, k ∈ ((P1 ++ r :: P2).map eltC).map Prod.fst → ∃ s ∈ P1 ++ r :: P2, s.b = k := fun k hk => by
    obtain ⟨y, hy, rfl⟩ := List.mem_map.1 hk
    exact mem_elt hy
  have hsub : ∀ s ∈ P1 ++ P2, s ∈ P1 ++ r :: P2 := fun s hs => by
    rcases List.mem_append.1 hs with hs | hs <;> simp [hs]
  refine ⟨⟨(h.1.shy s1 n2).shy s2 (fun e => ?_), ring, (shy_mapF s2 m (fun e => ?_)).congr (fun x => tabC_gone hwf hd x), fun s hs => s2.ownG (s1.ownG (h.2.2.2 s (hsub s hs)) (fun k hk e => (n5 s (hsub s hs)).2.2.1 (e ▸ hk))) (fun k hk e => ?_)⟩, ?_⟩
  · rcases e with e | e
    · exact n1 e
    · obtain ⟨s, hs, e2⟩ := hel _ e
      exact (n4 s hs).1 e2
  · rcases e with e | e
    · exact n3 e.symm
    · obtain ⟨s, hs, e2⟩ := hel _ e
      exact (n4 s hs).2.2 e2
  · rcases e with e | e
    · exact (n5 s (hsub s hs)).2.1 (e ▸ hk)
    · obtain ⟨s2, hs2, e2⟩ := hel _ e
      exact (n5 s (hsub s hs)).2.2.2 s2 hs2 (by rw [e2]; exact hk)
  · refine (s1.mono (fun k _ e => .inr (.inr (.inl e)))).trans s2 (fun k _ e => ?_)
    rcases e with e | e
    · exact .inr (.inl e)
    · exact .inr (.inr (.inr (hel k e)))
set_option maxHeartbeats 2000000 in
set_option maxRecDepth 100000 in
theorem out_no (h : CacM w g og mb most now R) {n : List UInt8} {k : Int} (hwf : ∀ r ∈ R, wfN r.n r.k) (hk : wfN n k) (hno : ∀ r ∈ R, ¬ r.is n k) :
    Calls Try.prog 39 #[pt g, .agg #[.string (str n), .int .i64 k]] w fun e w' => e = .returned (.tuple #[]) ∧ Ext w w' := by
  have xa := ext_alloc w (.cells #[.string (str n), .int .i64 k] 77)
  have ba := Blk.new w 77 #[.string (str n), .int .i64 k]
  have h2 := h.ext xa
  have hl : ∀ W, Ext (w.alloc (.cells #[.string (str n), .int .i64 k] 77)) W → (Instr.lookup 62 (.map (some mb)) (.agg #[.string (str n), .int .i64 k]) true).run Try.prog W = .ok (.tuple #[.pointer none, .bool false]) W := fun W x => by
    have hl := (h2.ext x).look hk
    rw [tabC_no hwf hk hno] at hl
    simpa using hl
  obtain ⟨wa, hwa⟩ : ∃ wa, w.alloc (.cells #[.string (str n), .int .i64 k] 77) = wa := ⟨_, rfl⟩
  obtain ⟨gk, hgk⟩ : ∃ gk, w.heap.size = gk := ⟨_, rfl⟩
  rw [hwa] at xa ba h2 hl
  rw [hgk] at ba
  have XA := hid xa
  have BA := hid ba
  have H2 := hid h2
  have HWA := hid hwa
  have HGK := hid hgk
  have HL := hid hl
  simp only [pt]
  clear h h2 xa ba hwa hgk hwf hk hno hl
  go_enter Try.func39, Try.ntmps39
  go_upto_region 1 with (fail)
  rw [HWA.out, HGK.out]
  have KP1 : Hid (∀ W, Ext wa W → W.cell? ⟨g, 3, none⟩ = some (.map (some mb)) ∧ W.cell? ⟨gk, 0, none⟩ = some (.string (str n)) ∧ W.cell? ⟨gk, 1, none⟩ = some (.int .i64 k) ∧ (Instr.lookup 62 (.map (some mb)) (.agg #[.string (str n), .int .i64 k]) true).run Try.prog W = .ok (.tuple #[.pointer none, .bool false]) W) := hid (fun W x => ⟨(H2.out.ext x).1.cell 3, (BA.out.ext x).cell 0, (BA.out.ext x).cell 1, HL.out W x⟩)
  go_region_held3 (fun W => W.cell? ⟨g, 3, none⟩ = some (.map (some mb)) ∧ W.cell? ⟨gk, 0, none⟩ = some (.string (str n)) ∧ W.cell? ⟨gk, 1, none⟩ = some (.int .i64 k) ∧ (Instr.lookup 62 (.map (some mb)) (.agg #[.string (str n), .int .i64 k]) true).run Try.prog W = .ok (.tuple #[.pointer none, .bool false]) W) (first | exact KP1.out _ (ext_refl _) | exact KP1.out _ (ext_drew _) | go_keep) ((fail))
  go_wp2_with fail
  go_end0
  exact ⟨rfl, ext_trans XA.out (ext_drew _)⟩
set_option maxHeartbeats 4000000 in
set_option maxRecDepth 100000 in
theorem out_yes (h : CacM w g og mb most now (P1 ++ r :: P2)) (hwf : ∀ s ∈ P1 ++ r :: P2, wfN s.n s.k) (hd : DiffR (P1 ++ r :: P2)) :
    Calls Try.prog 39 #[pt g, .agg #[.string (str r.n), .int .i64 r.k]] w fun e w' => e = .returned (.tuple #[]) ∧ CacM w' g og mb most now (P1 ++ P2) ∧ Shy (wrC g og mb (P1 ++ r :: P2)) w w' := by
  have hkr : wfN r.n r.k := hwf r (by simp)
  have xa := ext_alloc w (.cells #[.string (str r.n), .int .i64 r.k] 77)
  have ba := Blk.new w 77 #[.string (str r.n), .int .i64 r.k]
  have h2 := h.ext xa
  have hl : ∀ W, Ext (w.alloc (.cells #[.string (str r.n), .int .i64 r.k] 77)) W → (Instr.lookup 62 (.map (some mb)) (.agg #[.string (str r.n), .int .i64 r.k]) true).run Try.prog W = .ok (.tuple #[.pointer (some ⟨r.b, 0, none⟩), .bool true]) W := fun W x => by
    have hl := (h2.ext x).look hkr
    rw [tabC_at hwf hd] at hl
    simpa [pt] using hl
  obtain ⟨wa, hwa⟩ : ∃ wa, w.alloc (.cells #[.string (str r.n), .int .i64 r.k] 77) = wa := ⟨_, rfl⟩
  obtain ⟨gk, hgk⟩ : ∃ gk, w.heap.size = gk := ⟨_, rfl⟩
  rw [hwa] at xa ba h2 hl
  rw [hgk] at ba
  have XA := hid xa
  have BA := hid ba
  have H2 := hid h2
  have HWA := hid hwa
  have HGK := hid hgk
  have HWF := hid hwf
  have HD := hid hd
  have HKR := hid hkr
  have HL := hid hl
  simp only [pt]
  clear h h2 xa ba hwa hgk hwf hd hkr hl
  go_enter Try.func39, Try.ntmps39
  go_upto_region 1 with (fail)
  rw [HWA.out, HGK.out]
  have KP1 : Hid (∀ W, Ext wa W → W.cell? ⟨g, 3, none⟩ = some (.map (some mb)) ∧ W.cell? ⟨gk, 0, none⟩ = some (.string (str r.n)) ∧ W.cell? ⟨gk, 1, none⟩ = some (.int .i64 r.k) ∧ (Instr.lookup 62 (.map (some mb)) (.agg #[.string (str r.n), .int .i64 r.k]) true).run Try.prog W = .ok (.tuple #[.pointer (some ⟨r.b, 0, none⟩), .bool true]) W) := hid (fun W x => ⟨(H2.out.ext x).1.cell 3, (BA.out.ext x).cell 0, (BA.out.ext x).cell 1, HL.out W x⟩)
  go_region_held3 (fun W => W.cell? ⟨g, 3, none⟩ = some (.map (some mb)) ∧ W.cell? ⟨gk, 0, none⟩ = some (.string (str r.n)) ∧ W.cell? ⟨gk, 1, none⟩ = some (.int .i64 r.k) ∧ (Instr.lookup 62 (.map (some mb)) (.agg #[.string (str r.n), .int .i64 r.k]) true).run Try.prog W = .ok (.tuple #[.pointer (some ⟨r.b, 0, none⟩), .bool true]) W) (first | exact KP1.out _ (ext_refl _) | exact KP1.out _ (ext_drew _) | go_keep) ((fail))
  have xr2 := ext_drew wa
  obtain ⟨w2, hw2⟩ : ∃ w2, wa.drew = w2 := ⟨_, rfl⟩
  rw [hw2] at xr2 ⊢
  have H3 := hid (H2.out.ext xr2)
  have B3 := hid (BA.out.ext xr2)
  have X2 := hid (ext_trans XA.out xr2)
  clear hw2 xr2
  go_wp2_with fail
  have KEEP : Hid (∀ W, Ext w2 W → W.cell? ⟨g, 3, none⟩ = some (.map (some mb)) ∧ W.cell? ⟨gk, 0, none⟩ = some (.string (str r.n)) ∧ W.cell? ⟨gk, 1, none⟩ = some (.int .i64 r.k)) := hid (fun W x => ⟨(H3.out.ext x).1.cell 3, (B3.out.ext x).cell 0, (B3.out.ext x).cell 1⟩)
  refine wp_region_noPanic ?_
  refine region_E (S := fun W => W.cell? ⟨g, 3, none⟩ = some (.map (some mb)) ∧ W.cell? ⟨gk, 0, none⟩ = some (.string (str r.n)) ∧ W.cell? ⟨gk, 1, none⟩ = some (.int .i64 r.k)) 5 (by kernel_rfl) (by kernel_rfl) (by kernel_rfl) ?_
  refine EG_take 0 (v := ?v1) (by simp only [lga, lgb, lgc]; rfl) (by kernel_rfl) (by kernel_rfl) (by decide) (fun _ _ _ h => h) (Or.inl ⟨by rfl, ?hy1⟩) (KEEP.out _ (ext_drew _)) ?rest1
  case hy1 => intro W hSW; (try dsimp only at hSW); obtain ⟨e3, e5, e6⟩ := hSW; go_simp <;> with_reducible rfl
  try simp only [Act.put, lsa, lsb, lsc]
  refine EG_take 1 (v := ?v2) (by simp only [lga, lgb, lgc]; rfl) (by kernel_rfl) (by kernel_rfl) (by decide) (fun _ _ _ h => h) (Or.inl ⟨by rfl, ?hy2⟩) (KEEP.out _ (ext_drew _)) ?rest2
  case hy2 => intro W hSW; (try dsimp only at hSW); obtain ⟨e3, e5, e6⟩ := hSW; go_simp <;> with_reducible rfl
  try simp only [Act.put, lsa, lsb, lsc]
  refine EG_take 2 (v := ?v3) (by simp only [lga, lgb, lgc]; rfl) (by kernel_rfl) (by kernel_rfl) (by decide) (fun _ _ _ h => h) (Or.inl ⟨by rfl, ?hy3⟩) (KEEP.out _ (ext_drew _)) ?rest3
  case hy3 => intro W hSW; (try dsimp only at hSW); obtain ⟨e3, e5, e6⟩ := hSW; go_simp <;> with_reducible rfl
  try simp only [Act.put, lsa, lsb, lsc]
  refine EG_take 3 (v := ?v4) (by simp only [lga, lgb, lgc]; rfl) (by kernel_rfl) (by kernel_rfl) (by decide) (fun _ _ _ h => h) (Or.inl ⟨by rfl, ?hy4⟩) (KEEP.out _ (ext_drew _)) ?rest4
  case hy4 => intro W hSW; (try dsimp only at hSW); obtain ⟨e3, e5, e6⟩ := hSW; go_simp <;> with_reducible rfl
  try simp only [Act.put, lsa, lsb, lsc]
  refine EG_take 4 (v := ?v5) (by simp only [lga, lgb, lgc]; rfl) (by kernel_rfl) (by kernel_rfl) (by decide) (fun _ _ _ h => h) (Or.inl ⟨by rfl, ?hy5⟩) (KEEP.out _ (ext_drew _)) ?rest5
  case hy5 => intro W hSW; (try dsimp only at hSW); obtain ⟨e3, e5, e6⟩ := hSW; go_simp <;> with_reducible rfl
  try simp only [Act.put, lsa, lsb, lsc]
  refine EG_end (by kernel_rfl) (by simp only [lga, lgb, lgc]; rfl) ?_
  intro K hK0
  have hK := hid hK0
  clear hK0
  have H4 := hid (H3.out.ext (ext_drew _))
  obtain ⟨w5, hrun, m5, t5⟩ := H4.out.2.2.1.drop (t := 62) keyed Try.underlying62 (kl_key HKR.out.key) 0
  have hrun : (Builtin.delete_ #[62, 77] 0 #[.map (some mb), .agg #[.string (str r.n), .int .i64 r.k]]).run Try.prog w2.drew = .ok (.tuple #[]) w5 := by simpa [kv] using hrun
  have m6 : MapF Try.prog w5 77 mb (delF (tabC (P1 ++ r :: P2)) (kl (str r.n) r.k)) (P1 ++ P2).length := by
    rw [tabC_at HWF.out HD.out] at m5
    simpa using m5
  have s5 : Shy (fun k => k = mb) w2.drew w5 := (shy_of_grown t5.grown).mono (fun k _ e => by injection e with e; exact e.symm)
  have n4 := H4.out.ne
  have rg := H4.out.2.1.shy s5 (fun e => n4.2.2.1 e) (fun y hy e => by
    obtain ⟨q, hq, e2⟩ := mem_elt hy
    exact (n4.2.2.2.1 q hq).2.2 (e2.trans e))
  have c2 : w5.cell? ⟨g, 2, none⟩ = some (.pointer (some ⟨og, 0, none⟩)) := (H4.out.1.shy s5 n4.2.1).cell 2
  rw [List.map_append, List.map_cons] at rg
  have CR := hid (chain_remove rg)
  have M6 := hid m6
  have S5 := hid s5
  simp only [pt, eltC] at CR
  clear m5 m6 t5 s5 n4 rg
  go_simp
  refine hK.out _ _ ?_
  clear hK K hrun
  refine NoPanic.normal ?_
  go_wp2_with fail
  refine CR.out.mono ?_
  rintro e w6 ⟨rfl, r6, s6⟩
  have fin := H4.out.drop HWF.out HD.out M6.out S5.out (w6 := w6) (by rw [List.map_append]; exact r6) (by rw [List.map_append, List.map_cons]; exact s6)
  have FIN := hid fin
  clear r6 s6 fin
  go_wp2_with fail
  go_end0
  refine ⟨rfl, FIN.out.1, ?_⟩
  exact (Shy.of_ext (ext_trans X2.out (ext_drew _))).trans FIN.out.2 (fun k _ e => e)
end
end Go.Proofs.Ytcddfenhkljpeaa

/- Layer 23: out, with a range over the map under way. (Printed by gen_chcac.py.) -/
import Derived.Test.YtcddfenhkljpeaaChcD
import Derived.Maps.Range
namespace Go.Proofs.Ytcddfenhkljpeaa
open Go.BK Go.BK.CH Go.BK.NM Go.RowKit Go.Maps
set_option linter.unusedVariables false
set_option linter.unusedSimpArgs false
def OutR (w : World) (mb rr n : Nat) (D : DataW Value) (left : Lit → Bool) (cnt : Nat) : Prop := ∃ cnt', cnt' ≤ cnt ∧ w.ranges Try.prog 77 RV mb rr n D left cnt'
section
variable {w w' w5 w6 : World} {g og mb : Nat} {most now : Int} {R P1 P2 : List Row} {r : Row}
theorem ranges_blocks {rr n cnt : Nat} {D : DataW Value} {left : Lit → Bool} (h : w.ranges Try.prog 77 RV mb rr n D left cnt) (h1 : w'.heap[mb]? = w.heap[mb]?) (h2 : w'.heap[rr]? = w.heap[rr]?) : w'.ranges Try.prog 77 RV mb rr n D left cnt := by
  obtain ⟨es, clock, since, seen, c0, hb, F, hs, hD, hr, rest⟩ := h
  exact ⟨es, clock, since, seen, c0, h1.trans hb, F, hs, hD, h2.trans hr, rest⟩
theorem ranges_ext {rr n cnt : Nat} {D : DataW Value} {left : Lit → Bool} (h : w.ranges Try.prog 77 RV mb rr n D left cnt) (x : Ext w w') : w'.ranges Try.prog 77 RV mb rr n D left cnt :=
  ranges_blocks h (x.block mb h.owns.lt) (x.block rr h.lt)
theorem ranges_shy {U : Nat → Prop} {rr n cnt : Nat} {D : DataW Value} {left : Lit → Bool} (h : w.ranges Try.prog 77 RV mb rr n D left cnt) (s : Shy U w w') (h1 : ¬ U mb) (h2 : ¬ U rr) : w'.ranges Try.prog 77 RV mb rr n D left cnt :=
  ranges_blocks h (s.block mb h.owns.lt h1) (s.block rr h.lt h2)
set_option maxHeartbeats 4000000 in
set_option maxRecDepth 100000 in
theorem out_ran (h : CacM w g og mb most now (P1 ++ r :: P2)) (hwf : ∀ s ∈ P1 ++ r :: P2, wfN s.n s.k) (hd : DiffR (P1 ++ r :: P2)) {rr n cnt : Nat} {D : DataW Value} {left : Lit → Bool} (hrg : w.ranges Try.prog 77 RV mb rr n D left cnt) (hrr : rr ≠ og ∧ rr ∉ ((P1 ++ r :: P2).map eltC).map Prod.fst) :
    Calls Try.prog 39 #[pt g, .agg #[.string (str r.n), .int .i64 r.k]] w fun e w' => e = .returned (.tuple #[]) ∧ CacM w' g og mb most now (P1 ++ P2) ∧ Shy (wrC g og mb (P1 ++ r :: P2)) w w' ∧ OutR w' mb rr n (D.del (kl (str r.n) r.k)) (fun x => left x && !x.sameKey (kl (str r.n) r.k)) cnt := by
  have HRR := hid hrr
  have RG0 := hid hrg
  clear hrg hrr
  have hkr : wfN r.n r.k := hwf r (by simp)
  have xa := ext_alloc w (.cells #[.string (str r.n), .int .i64 r.k] 77)
  have ba := Blk.new w 77 #[.string (str r.n), .int .i64 r.k]
  have h2 := h.ext xa
  have hl : ∀ W, Ext (w.alloc (.cells #[.string (str r.n), .int .i64 r.k] 77)) W → (Instr.lookup 62 (.map (some mb)) (.agg #[.string (str r.n), .int .i64 r.k]) true).run Try.prog W = .ok (.tuple #[.pointer (some ⟨r.b, 0, none⟩), .bool true]) W := fun W x => by
    have hl := (h2.ext x).look hkr
    rw [tabC_at hwf hd] at hl
    simpa [pt] using hl
  obtain ⟨wa, hwa⟩ : ∃ wa, w.alloc (.cells #[.string (str r.n), .int .i64 r.k] 77) = wa := ⟨_, rfl⟩
  obtain ⟨gk, hgk⟩ : ∃ gk, w.heap.size = gk := ⟨_, rfl⟩
  rw [hwa] at xa ba h2 hl
  rw [hgk] at ba
  have XA := hid xa
  have BA := hid ba
  have H2 := hid h2
  have HWA := hid hwa
  have HGK := hid hgk
  have HWF := hid hwf
  have HD := hid hd
  have HKR := hid hkr
  have HL := hid hl
  simp only [pt]
  clear h h2 xa ba hwa hgk hwf hd hkr hl
  go_enter Try.func39, Try.ntmps39
  go_upto_region 1 with (fail)
  rw [HWA.out, HGK.out]
  have KP1 : Hid (∀ W, Ext wa W → W.cell? ⟨g, 3, none⟩ = some (.map (some mb)) ∧ W.cell? ⟨gk, 0, none⟩ = some (.string (str r.n)) ∧ W.cell? ⟨gk, 1, none⟩ = some (.int .i64 r.k) ∧ (Instr.lookup 62 (.map (some mb)) (.agg #[.string (str r.n), .int .i64 r.k]) true).run Try.prog W = .ok (.tuple #[.pointer (some ⟨r.b, 0, none⟩), .bool true]) W) := hid (fun W x => ⟨(H2.out.ext x).1.cell 3, (BA.out.ext x).cell 0, (BA.out.ext x).cell 1, HL.out W x⟩)
  go_region_held3 (fun W => W.cell? ⟨g, 3, none⟩ = some (.map (some mb)) ∧ W.cell? ⟨gk, 0, none⟩ = some (.string (str r.n)) ∧ W.cell? ⟨gk, 1, none⟩ = some (.int .i64 r.k) ∧ (Instr.lookup 62 (.map (some mb)) (.agg #[.string (str r.n), .int .i64 r.k]) true).run Try.prog W = .ok (.tuple #[.pointer (some ⟨r.b, 0, none⟩), .bool true]) W) (first | exact KP1.out _ (ext_refl _) | exact KP1.out _ (ext_drew _) | go_keep) ((fail))
  have xr2 := ext_drew wa
  obtain ⟨w2, hw2⟩ : ∃ w2, wa.drew = w2 := ⟨_, rfl⟩
  rw [hw2] at xr2 ⊢
  have H3 := hid (H2.out.ext xr2)
  have B3 := hid (BA.out.ext xr2)
  have X2 := hid (ext_trans XA.out xr2)
  clear hw2 xr2
  go_wp2_with fail
  have KEEP : Hid (∀ W, Ext w2 W → W.cell? ⟨g, 3, none⟩ = some (.map (some mb)) ∧ W.cell? ⟨gk, 0, none⟩ = some (.string (str r.n)) ∧ W.cell? ⟨gk, 1, none⟩ = some (.int .i64 r.k)) := hid (fun W x => ⟨(H3.out.ext x).1.cell 3, (B3.out.ext x).cell 0, (B3.out.ext x).cell 1⟩)
  refine wp_region_noPanic ?_
  refine region_E (S := fun W => W.cell? ⟨g, 3, none⟩ = some (.map (some mb)) ∧ W.cell? ⟨gk, 0, none⟩ = some (.string (str r.n)) ∧ W.cell? ⟨gk, 1, none⟩ = some (.int .i64 r.k)) 5 (by kernel_rfl) (by kernel_rfl) (by kernel_rfl) ?_
  refine EG_take 0 (v := ?v1) (by simp only [List.getElem?_toArray, List.getElem?_cons_succ, List.getElem?_cons_zero]; rfl) (by kernel_rfl) (by kernel_rfl) (by decide) (fun _ _ _ h => h) (Or.inl ⟨by rfl, ?hy1⟩) (KEEP.out _ (ext_drew _)) ?rest1
  case hy1 => intro W hSW; (try dsimp only at hSW); obtain ⟨e3, e5, e6⟩ := hSW; go_simp <;> with_reducible rfl
  try simp only [Act.put, List.setIfInBounds_toArray, List.set_cons_zero, List.set_cons_succ]
  refine EG_take 1 (v := ?v2) (by simp only [List.getElem?_toArray, List.getElem?_cons_succ, List.getElem?_cons_zero]; rfl) (by kernel_rfl) (by kernel_rfl) (by decide) (fun _ _ _ h => h) (Or.inl ⟨by rfl, ?hy2⟩) (KEEP.out _ (ext_drew _)) ?rest2
  case hy2 => intro W hSW; (try dsimp only at hSW); obtain ⟨e3, e5, e6⟩ := hSW; go_simp <;> with_reducible rfl
  try simp only [Act.put, List.setIfInBounds_toArray, List.set_cons_zero, List.set_cons_succ]
  refine EG_take 2 (v := ?v3) (by simp only [List.getElem?_toArray, List.getElem?_cons_succ, List.getElem?_cons_zero]; rfl) (by kernel_rfl) (by kernel_rfl) (by decide) (fun _ _ _ h => h) (Or.inl ⟨by rfl, ?hy3⟩) (KEEP.out _ (ext_drew _)) ?rest3
  case hy3 => intro W hSW; (try dsimp only at hSW); obtain ⟨e3, e5, e6⟩ := hSW; go_simp <;> with_reducible rfl
  try simp only [Act.put, List.setIfInBounds_toArray, List.set_cons_zero, List.set_cons_succ]
  refine EG_take 3 (v := ?v4) (by simp only [List.getElem?_toArray, List.getElem?_cons_succ, List.getElem?_cons_zero]; rfl) (by kernel_rfl) (by kernel_rfl) (by decide) (fun _ _ _ h => h) (Or.inl ⟨by rfl, ?hy4⟩) (KEEP.out _ (ext_drew _)) ?rest4
  case hy4 => intro W hSW; (try dsimp only at hSW); obtain ⟨e3, e5, e6⟩ := hSW; go_simp <;> with_reducible rfl
  try simp only [Act.put, List.setIfInBounds_toArray, List.set_cons_zero, List.set_cons_succ]
  refine EG_take 4 (v := ?v5) (by simp only [List.getElem?_toArray, List.getElem?_cons_succ, List.getElem?_cons_zero]; rfl) (by kernel_rfl) (by kernel_rfl) (by decide) (fun _ _ _ h => h) (Or.inl ⟨by rfl, ?hy5⟩) (KEEP.out _ (ext_drew _)) ?rest5
  case hy5 => intro W hSW; (try dsimp only at hSW); obtain ⟨e3, e5, e6⟩ := hSW; go_simp <;> with_reducible rfl
  try simp only [Act.put, List.setIfInBounds_toArray, List.set_cons_zero, List.set_cons_succ]
  refine EG_end (by kernel_rfl) (by simp only [List.getElem?_toArray, List.getElem?_cons_succ, List.getElem?_cons_zero]; rfl) ?_
  intro K hK0
  have hK := hid hK0
  clear hK0
  have H4 := hid (H3.out.ext (ext_drew _))
  have RG4 := ranges_ext (ranges_ext RG0.out X2.out) (ext_drew w2)
  obtain ⟨w5, hrun, m5, t5⟩ := H4.out.2.2.1.drop (t := 62) keyed Try.underlying62 (kl_key HKR.out.key) 0
  have hrun : (Builtin.delete_ #[62, 77] 0 #[.map (some mb), .agg #[.string (str r.n), .int .i64 r.k]]).run Try.prog w2.drew = .ok (.tuple #[]) w5 := by simpa [kv] using hrun
  have RG5 : OutR w5 mb rr n (D.del (kl (str r.n) r.k)) (fun x => left x && !x.sameKey (kl (str r.n) r.k)) cnt := by
    obtain ⟨wq, cnt', hrun', rg5, hle, _⟩ := RG4.drop (t := 62) keyed Try.underlying62 (kl_key HKR.out.key) 0
    have hrun' : (Builtin.delete_ #[62, 77] 0 #[.map (some mb), .agg #[.string (str r.n), .int .i64 r.k]]).run Try.prog w2.drew = .ok (.tuple #[]) wq := by simpa [kv] using hrun'
    rw [hrun] at hrun'
    injection hrun' with _ e
    rw [e]
    exact ⟨cnt', hle, rg5⟩
  have RG5 := hid RG5
  clear RG4
  have m6 : MapF Try.prog w5 77 mb (delF (tabC (P1 ++ r :: P2)) (kl (str r.n) r.k)) (P1 ++ P2).length := by
    rw [tabC_at HWF.out HD.out] at m5
    simpa using m5
  have s5 : Shy (fun k => k = mb) w2.drew w5 := (shy_of_grown t5.grown).mono (fun k _ e => by injection e with e; exact e.symm)
  have n4 := H4.out.ne
  have rg := H4.out.2.1.shy s5 (fun e => n4.2.2.1 e) (fun y hy e => by
    obtain ⟨q, hq, e2⟩ := mem_elt hy
    exact (n4.2.2.2.1 q hq).2.2 (e2.trans e))
  have c2 : w5.cell? ⟨g, 2, none⟩ = some (.pointer (some ⟨og, 0, none⟩)) := (H4.out.1.shy s5 n4.2.1).cell 2
  rw [List.map_append, List.map_cons] at rg
  have CR := hid (chain_remove rg)
  have M6 := hid m6
  have S5 := hid s5
  simp only [pt, eltC] at CR
  clear m5 m6 t5 s5 n4 rg
  go_simp
  refine hK.out _ _ ?_
  clear hK K hrun
  refine NoPanic.normal ?_
  go_wp2_with fail
  refine CR.out.mono ?_
  rintro e w6 ⟨rfl, r6, s6⟩
  have fin := H4.out.drop HWF.out HD.out M6.out S5.out (w6 := w6) (by rw [List.map_append]; exact r6) (by rw [List.map_append, List.map_cons]; exact s6)
  have FIN := hid fin
  have RG6 : Hid (OutR w6 mb rr n (D.del (kl (str r.n) r.k)) (fun x => left x && !x.sameKey (kl (str r.n) r.k)) cnt) := hid (by
    obtain ⟨cnt', hle, rg⟩ := RG5.out
    refine ⟨cnt', hle, ranges_shy rg s6 (fun e => ?_) (fun e => ?_)⟩
    · rcases e with e | e
      · exact H4.out.ne.2.2.1 e.symm
      · rw [show ((P1.map eltC ++ (r.b, entV r) :: P2.map eltC).map Prod.fst) = ((P1 ++ r :: P2).map eltC).map Prod.fst from by simp [eltC]] at e
        obtain ⟨y, hy, e2⟩ := List.mem_map.1 e
        obtain ⟨q, hq, e3⟩ := mem_elt hy
        exact (H4.out.ne.2.2.2.1 q hq).2.2 (e3.trans e2)
    · rcases e with e | e
      · exact HRR.out.1 e
      · exact HRR.out.2 (by simpa [eltC] using e))
  clear r6 s6 fin
  go_wp2_with fail
  go_end0
  refine ⟨rfl, FIN.out.1, ?_, RG6.out⟩
  exact (Shy.of_ext (ext_trans X2.out (ext_drew _))).trans FIN.out.2 (fun k _ e => e)
end
end Go.Proofs.Ytcddfenhkljpeaa

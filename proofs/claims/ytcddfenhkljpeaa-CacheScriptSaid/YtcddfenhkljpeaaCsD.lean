import Derived.Test.YtcddfenhkljpeaaChcD
import Derived.Maps.Range
import Derived.Test.YtcddfenhkljpeaaChcE
import Derived.Test.YtcddfenhkljpeaaChcH
import Derived.Maps.RangeWalk
import Derived.Test.YtcddfenhkljpeaaChcAb
/- Layer 23: out, with a range over the map under way. (Printed by gen_chcac.py.) -/
namespace Go.Proofs.Ytcddfenhkljpeaa
open Go.BK Go.BK.CH Go.BK.NM Go.RowKit Go.Maps
set_option linter.unusedVariables false
set_option linter.unusedSimpArgs false
def OutR (w : World) (mb rr n : Nat) (D : DataW Value) (left : Lit → Bool) (cnt : Nat) : Prop := ∃ cnt', cnt' ≤ cnt ∧ w.ranges Try.prog 77 RV mb rr n D left cnt'
section
variable {w w' w5 w6 : World} {g og mb : Nat} {most now : Int} {R P1 P2 : List Row} {r : Row}
theorem ranges_blocks {rr n cnt : Nat} {D : DataW Value} {left : Lit → Bool} (h : w.ranges Try.prog 77 RV mb rr n D left cnt) (h1 : w'.heap[mb]? = w.heap[mb]?) (h2 : w'.heap[rr]? = w.heap[rr]?) : w'.ranges Try.prog 77 RV mb rr n D left cnt := by
  obtain ⟨es, clock, since, seen, c0, hb, F, hs, hD, hr, rest⟩ := h
  exact ⟨es, clock, since, seen, c0, h1.trans hb, F, hs, hD, h2.trans hr, rest⟩
theorem ranges_ext {rr n cnt : Nat} {D : DataW Value} {left : Lit → Bool} (h : w.ranges Try.prog 77 RV mb rr n D left cnt) (x : Ext w w') : w'.ranges Try.prog 77 RV mb rr n D left cnt :=
  ranges_blocks h (x.block mb h.owns.lt) (x.block rr h.lt)
theorem ranges_shy {U : Nat → Prop} {rr n cnt : Nat} {D : DataW Value} {left : Lit → Bool} (h : w.ranges Try.prog 77 RV mb rr n D left cnt) (s : Shy U w w') (h1 : ¬ U mb) (h2 : ¬ U rr) : w'.ranges Try.prog 77 RV mb rr n D left cnt :=
  ranges_blocks h (s.block mb h.owns.lt h1) (s.block rr h.lt h2)
set_option maxHeartbeats 4000000 in
set_option maxRecDepth 100000 in
theorem out_ran (h : CacM w g og mb most now (P1 ++ r :: P2)) (hwf : ∀ s ∈ P1 ++ r :: P2, wfN s.n s.k) (hd : DiffR (P1 ++ r :: P2)) {rr n cnt : Nat} {D : DataW Value} {left : Lit → Bool} (hrg : w.ranges Try.prog 77 RV mb rr n D left cnt) (hrr : rr ≠ og ∧ rr ∉ ((P1 ++ r :: P2).map eltC).map Prod.fst) :
    Calls Try.prog 39 #[pt g, .agg #[.string (str r.n), .int .i64 r.k]] w fun e w' => e = .returned (.tuple #[]) ∧ CacM w' g og mb most now (P1 ++ P2) ∧ Shy (wrC g og mb (P1 ++ r :: P2)) w w' ∧ OutR w' mb rr n (D.del (kl (str r.n) r.k)) (fun x => left x && !x.sameKey (kl (str r.n) r.k)) cnt := by
  have HRR := hid hrr
  have RG0 := hid hrg
  clear hrg hrr
  have hkr : wfN r.n r.k := hwf r (by simp)
  have xa := ext_alloc w (.cells #[.string (str r.n), .int .i64 r.k] 77)
  have ba := Blk.new w 77 #[.string (str r.n), .int .i64 r.k]
  have h2 := h.ext xa
  have hl : ∀ W, Ext (w.alloc (.cells #[.string (str r.n), .int .i64 r.k] 77)) W → (Instr.lookup 62 (.map (some mb)) (.agg #[.string (str r.n), .int .i64 r.k]) true).run Try.prog W = .ok (.tuple #[.pointer (some ⟨r.b, 0, none⟩), .bool true]) W := fun W x => by
    have hl := (h2.ext x).look hkr
    rw [tabC_at hwf hd] at hl
    simpa [pt] using hl
  obtain ⟨wa, hwa⟩ : ∃ wa, w.alloc (.cells #[.string (str r.n), .int .i64 r.k] 77) = wa := ⟨_, rfl⟩
  obtain ⟨gk, hgk⟩ : ∃ gk, w.heap.size = gk := ⟨_, rfl⟩
  rw [hwa] at xa ba h2 hl
  rw [hgk] at ba
  have XA := hid xa
  have BA := hid ba
  have H2 := hid h2
  have HWA := hid hwa
  have HGK := hid hgk
  have HWF := hid hwf
  have HD := hid hd
  have HKR := hid hkr
  have HL := hid hl
  simp only [pt]
  clear h h2 xa ba hwa hgk hwf hd hkr hl
  go_enter Try.func39, Try.ntmps39
  go_upto_region 1 with (fail)
  rw [HWA.out, HGK.out]
  have KP1 : Hid (∀ W, Ext wa W → W.cell? ⟨g, 3, none⟩ = some (.map (some mb)) ∧ W.cell? ⟨gk, 0, none⟩ = some (.string (str r.n)) ∧ W.cell? ⟨gk, 1, none⟩ = some (.int .i64 r.k) ∧ (Instr.lookup 62 (.map (some mb)) (.agg #[.string (str r.n), .int .i64 r.k]) true).run Try.prog W = .ok (.tuple #[.pointer (some ⟨r.b, 0, none⟩), .bool true]) W) := hid (fun W x => ⟨(H2.out.ext x).1.cell 3, (BA.out.ext x).cell 0, (BA.out.ext x).cell 1, HL.out W x⟩)
  go_region_held3 (fun W => W.cell? ⟨g, 3, none⟩ = some (.map (some mb)) ∧ W.cell? ⟨gk, 0, none⟩ = some (.string (str r.n)) ∧ W.cell? ⟨gk, 1, none⟩ = some (.int .i64 r.k) ∧ (Instr.lookup 62 (.map (some mb)) (.agg #[.string (str r.n), .int .i64 r.k]) true).run Try.prog W = .ok (.tuple #[.pointer (some ⟨r.b, 0, none⟩), .bool true]) W) (first | exact KP1.out _ (ext_refl _) | exact KP1.out _ (ext_drew _) | go_keep) ((fail))
  have xr2 := ext_drew wa
  obtain ⟨w2, hw2⟩ : ∃ w2, wa.drew = w2 := ⟨_, rfl⟩
  rw [hw2] at xr2 ⊢
  have H3 := hid (H2.out.ext xr2)
  have B3 := hid (BA.out.ext xr2)
  have X2 := hid (ext_trans XA.out xr2)
  clear hw2 xr2
  go_wp2_with fail
  have KEEP : Hid (∀ W, Ext w2 W → W.cell? ⟨g, 3, none⟩ = some (.map (some mb)) ∧ W.cell? ⟨gk, 0, none⟩ = some (.string (str r.n)) ∧ W.cell? ⟨gk, 1, none⟩ = some (.int .i64 r.k)) := hid (fun W x => ⟨(H3.out.ext x).1.cell 3, (B3.out.ext x).cell 0, (B3.out.ext x).cell 1⟩)
  refine wp_region_noPanic ?_
  refine region_E (S := fun W => W.cell? ⟨g, 3, none⟩ = some (.map (some mb)) ∧ W.cell? ⟨gk, 0, none⟩ = some (.string (str r.n)) ∧ W.cell? ⟨gk, 1, none⟩ = some (.int .i64 r.k)) 5 (by kernel_rfl) (by kernel_rfl) (by kernel_rfl) ?_
  refine EG_take 0 (v := ?v1) (by simp only [lga, lgb, lgc]; rfl) (by kernel_rfl) (by kernel_rfl) (by decide) (fun _ _ _ h => h) (Or.inl ⟨by rfl, ?hy1⟩) (KEEP.out _ (ext_drew _)) ?rest1
  case hy1 => intro W hSW; (try dsimp only at hSW); obtain ⟨e3, e5, e6⟩ := hSW; go_simp <;> with_reducible rfl
  try simp only [Act.put, lsa, lsb, lsc]
  refine EG_take 1 (v := ?v2) (by simp only [lga, lgb, lgc]; rfl) (by kernel_rfl) (by kernel_rfl) (by decide) (fun _ _ _ h => h) (Or.inl ⟨by rfl, ?hy2⟩) (KEEP.out _ (ext_drew _)) ?rest2
  case hy2 => intro W hSW; (try dsimp only at hSW); obtain ⟨e3, e5, e6⟩ := hSW; go_simp <;> with_reducible rfl
  try simp only [Act.put, lsa, lsb, lsc]
  refine EG_take 2 (v := ?v3) (by simp only [lga, lgb, lgc]; rfl) (by kernel_rfl) (by kernel_rfl) (by decide) (fun _ _ _ h => h) (Or.inl ⟨by rfl, ?hy3⟩) (KEEP.out _ (ext_drew _)) ?rest3
  case hy3 => intro W hSW; (try dsimp only at hSW); obtain ⟨e3, e5, e6⟩ := hSW; go_simp <;> with_reducible rfl
  try simp only [Act.put, lsa, lsb, lsc]
  refine EG_take 3 (v := ?v4) (by simp only [lga, lgb, lgc]; rfl) (by kernel_rfl) (by kernel_rfl) (by decide) (fun _ _ _ h => h) (Or.inl ⟨by rfl, ?hy4⟩) (KEEP.out _ (ext_drew _)) ?rest4
  case hy4 => intro W hSW; (try dsimp only at hSW); obtain ⟨e3, e5, e6⟩ := hSW; go_simp <;> with_reducible rfl
  try simp only [Act.put, lsa, lsb, lsc]
  refine EG_take 4 (v := ?v5) (by simp only [lga, lgb, lgc]; rfl) (by kernel_rfl) (by kernel_rfl) (by decide) (fun _ _ _ h => h) (Or.inl ⟨by rfl, ?hy5⟩) (KEEP.out _ (ext_drew _)) ?rest5
  case hy5 => intro W hSW; (try dsimp only at hSW); obtain ⟨e3, e5, e6⟩ := hSW; go_simp <;> with_reducible rfl
  try simp only [Act.put, lsa, lsb, lsc]
  refine EG_end (by kernel_rfl) (by simp only [lga, lgb, lgc]; rfl) ?_
  intro K hK0
  have hK := hid hK0
  clear hK0
  have H4 := hid (H3.out.ext (ext_drew _))
  have RG4 := ranges_ext (ranges_ext RG0.out X2.out) (ext_drew w2)
  obtain ⟨w5, hrun, m5, t5⟩ := H4.out.2.2.1.drop (t := 62) keyed Try.underlying62 (kl_key HKR.out.key) 0
  have hrun : (Builtin.delete_ #[62, 77] 0 #[.map (some mb), .agg #[.string (str r.n), .int .i64 r.k]]).run Try.prog w2.drew = .ok (.tuple #[]) w5 := by simpa [kv] using hrun
  have RG5 : OutR w5 mb rr n (D.del (kl (str r.n) r.k)) (fun x => left x && !x.sameKey (kl (str r.n) r.k)) cnt := by
    obtain ⟨wq, cnt', hrun', rg5, hle, _⟩ := RG4.drop (t := 62) keyed Try.underlying62 (kl_key HKR.out.key) 0
    have hrun' : (Builtin.delete_ #[62, 77] 0 #[.map (some mb), .agg #[.string (str r.n), .int .i64 r.k]]).run Try.prog w2.drew = .ok (.tuple #[]) wq := by simpa [kv] using hrun'
    rw [hrun] at hrun'
    injection hrun' with _ e
    rw [e]
    exact ⟨cnt', hle, rg5⟩
  have RG5 := hid RG5
  clear RG4
  have m6 : MapF Try.prog w5 77 mb (delF (tabC (P1 ++ r :: P2)) (kl (str r.n) r.k)) (P1 ++ P2).length := by
    rw [tabC_at HWF.out HD.out] at m5
    simpa using m5
  have s5 : Shy (fun k => k = mb) w2.drew w5 := (shy_of_grown t5.grown).mono (fun k _ e => by injection e with e; exact e.symm)
  have n4 := H4.out.ne
  have rg := H4.out.2.1.shy s5 (fun e => n4.2.2.1 e) (fun y hy e => by
    obtain ⟨q, hq, e2⟩ := mem_elt hy
    exact (n4.2.2.2.1 q hq).2.2 (e2.trans e))
  have c2 : w5.cell? ⟨g, 2, none⟩ = some (.pointer (some ⟨og, 0, none⟩)) := (H4.out.1.shy s5 n4.2.1).cell 2
  rw [List.map_append, List.map_cons] at rg
  have CR := hid (chain_remove rg)
  have M6 := hid m6
  have S5 := hid s5
  simp only [pt, eltC] at CR
  clear m5 m6 t5 s5 n4 rg
  go_simp
  refine hK.out _ _ ?_
  clear hK K hrun
  refine NoPanic.normal ?_
  go_wp2_with fail
  refine CR.out.mono ?_
  rintro e w6 ⟨rfl, r6, s6⟩
  have fin := H4.out.drop HWF.out HD.out M6.out S5.out (w6 := w6) (by rw [List.map_append]; exact r6) (by rw [List.map_append, List.map_cons]; exact s6)
  have FIN := hid fin
  have RG6 : Hid (OutR w6 mb rr n (D.del (kl (str r.n) r.k)) (fun x => left x && !x.sameKey (kl (str r.n) r.k)) cnt) := hid (by
    obtain ⟨cnt', hle, rg⟩ := RG5.out
    refine ⟨cnt', hle, ranges_shy rg s6 (fun e => ?_) (fun e => ?_)⟩
    · rcases e with e | e
      · exact H4.out.ne.2.2.1 e.symm
      · rw [show ((P1.map eltC ++ (r.b, entV r) :: P2.map eltC).map Prod.fst) = ((P1 ++ r :: P2).map eltC).map Prod.fst from by simp [eltC]] at e
        obtain ⟨y, hy, e2⟩ := List.mem_map.1 e
        obtain ⟨q, hq, e3⟩ := mem_elt hy
        exact (H4.out.ne.2.2.2.1 q hq).2.2 (e3.trans e2)
    · rcases e with e | e
      · exact HRR.out.1 e
      · exact HRR.out.2 (by simpa [eltC] using e))
  clear r6 s6 fin
  go_wp2_with fail
  go_end0
  refine ⟨rfl, FIN.out.1, ?_, RG6.out⟩
  exact (Shy.of_ext (ext_trans X2.out (ext_drew _))).trans FIN.out.2 (fun k _ e => e)
end
end Go.Proofs.Ytcddfenhkljpeaa
/- Layer 23: Sweep. (Printed by gen_chcad.py.) -/
namespace Go.Proofs.Ytcddfenhkljpeaa
open Go.BK Go.BK.CH Go.BK.NM Go.RowKit Go.Maps
set_option linter.unusedVariables false
set_option linter.unusedSimpArgs false
noncomputable def keyR (r : Row) : Lit := kl (str r.n) r.k
/-- What is there: what is not over, and what is still to come. -/
noncomputable def swF (R : List Row) (tm : Int) (left : Lit → Bool) : List Row := R.filter (fun r => !decide (r.x.till ≤ tm) || left (keyR r))
def overR (R : List Row) (tm : Int) : List Row := R.filter (fun r => !decide (r.x.till ≤ tm))
theorem swF_sub {R : List Row} {tm : Int} {left : Lit → Bool} : ∀ r ∈ swF R tm left, r ∈ R := fun r hr => (List.mem_filter.1 hr).1
theorem swF_diff {R : List Row} {tm : Int} {left : Lit → Bool} (h : DiffR R) : DiffR (swF R tm left) := List.Pairwise.filter _ h
theorem swF_len {R : List Row} {tm : Int} {left : Lit → Bool} : (swF R tm left).length ≤ R.length := List.length_filter_le _ _
theorem swF_start {R : List Row} {tm : Int} {left : Lit → Bool} (h : ∀ r ∈ R, left (keyR r) = true) : swF R tm left = R := by
  unfold swF
  rw [List.filter_eq_self]
  intro r hr
  rw [h r hr]
  simp
theorem swF_end {R : List Row} {tm : Int} {left : Lit → Bool} (h : ∀ x, left x = false) : swF R tm left = overR R tm := by
  unfold swF overR
  apply List.filter_congr
  intro r _
  rw [h]
  simp
theorem diffR_eq {R : List Row} (hd : DiffR R) {r s : Row} (hr : r ∈ R) (hs : s ∈ R) (h : r.is s.n s.k) : r = s := by
  unfold DiffR at hd
  induction R with
  | nil => cases hr
  | cons a l ih =>
    rw [List.pairwise_cons] at hd
    rcases List.mem_cons.1 hr with e1 | e1
    · rcases List.mem_cons.1 hs with e2 | e2
      · rw [e1, e2]
      · exact absurd h (by rw [e1]; exact hd.1 s e2)
    · rcases List.mem_cons.1 hs with e2 | e2
      · exact absurd (show s.is r.n r.k from ⟨h.1.symm, h.2.symm⟩) (by rw [e2]; exact hd.1 r e1)
      · exact ih hd.2 e1 e2
set_option maxRecDepth 100000 in
theorem keyR_lit {r : Row} (h : wfN r.n r.k) : WideAt.IsKeyLit (keyR r) := by
  have h1 := kl_key h.key
  exact keyed.key h1
set_option maxRecDepth 100000 in
theorem same_self {r : Row} (h : wfN r.n r.k) : (keyR r).sameKey (keyR r) = true := by
  have h1 := keyR_lit (r := r) h
  obtain ⟨x, hx⟩ : ∃ x, keyR r = x := ⟨_, rfl⟩
  rw [hx] at h1 ⊢
  exact WideAt.sameKey_self h1
open Classical in
theorem same_key {R : List Row} (hwf : ∀ r ∈ R, wfN r.n r.k) (hd : DiffR R) {r s : Row} (hr : r ∈ R) (hs : s ∈ R) : (keyR s).sameKey (keyR r) = decide (s = r) := by
  by_cases h : s = r
  · subst h
    rw [same_self (r := s) (hwf s hs)]
    simp
  · rw [decide_eq_false h]
    cases hk : (keyR s).sameKey (keyR r)
    · rfl
    · obtain ⟨h1, h2⟩ := kn_inj (hwf s hs) (hwf r hr) (WideAt.sameKey_eq hk)
      exact absurd (diffR_eq hd hs hr ⟨h1, h2⟩) h
theorem swF_keep {R : List Row} (hwf : ∀ r ∈ R, wfN r.n r.k) (hd : DiffR R) {tm : Int} {left : Lit → Bool} {r : Row} (hr : r ∈ R) (h : ¬ r.x.till ≤ tm) : swF R tm (fun x => left x && !x.sameKey (keyR r)) = swF R tm left := by
  unfold swF
  apply List.filter_congr
  intro s hs
  show (!decide (s.x.till ≤ tm) || (left (keyR s) && !(keyR s).sameKey (keyR r))) = _
  rw [same_key hwf hd hr hs]
  by_cases e : s = r
  · subst e
    simp [h]
  · simp [e]
theorem swF_out {R : List Row} (hwf : ∀ r ∈ R, wfN r.n r.k) (hd : DiffR R) {tm : Int} {left : Lit → Bool} {r : Row} (hr : r ∈ R) (h : r.x.till ≤ tm) : swF R tm (fun x => (left x && !x.sameKey (keyR r)) && !x.sameKey (keyR r)) = outR (swF R tm left) r.n r.k := by
  unfold swF outR
  rw [List.filter_filter]
  apply List.filter_congr
  intro s hs
  show (!decide (s.x.till ≤ tm) || ((left (keyR s) && !(keyR s).sameKey (keyR r)) && !(keyR s).sameKey (keyR r))) = _
  rw [same_key hwf hd hr hs]
  by_cases e : s = r
  · subst e
    simp [h, Row.is]
  · have hi : ¬ s.is r.n r.k := fun hi => e (diffR_eq hd hs hr hi)
    simp [e, hi]
theorem owns_same {P : Program} {w : World} {k : TypeId} {R : Value → Option (DataW Value × List MemPlace)} {b n m : Nat} {D E : DataW Value} (h : w.ownsMap P k R b n D) (h2 : w.ownsMap P k R b m E) : D = E := by
  obtain ⟨es, clock, hb, _, _, rfl⟩ := h
  obtain ⟨es2, clock2, hb2, _, _, rfl⟩ := h2
  rw [hb] at hb2
  injection hb2 with hb2
  injection hb2 with h1 h2
  rw [h1]
theorem outR_one {R : List Row} (hd : DiffR R) {r : Row} (hr : r ∈ R) : (outR R r.n r.k).length + 1 = R.length := by
  obtain ⟨P1, P2, rfl⟩ := List.append_of_mem hr
  rw [outR_yes hd]
  simp
  omega
section
variable {w w' : World} {g og mb : Nat} {most now : Int} {R : List Row}
/-- Which entry the range has come to. -/
theorem row_at (h : CacM w g og mb most now R) (hwf : ∀ r ∈ R, wfN r.n r.k) {rr n cnt : Nat} {D : DataW Value} {left : Lit → Bool} (hrg : w.ranges Try.prog 77 RV mb rr n D left cnt)
    {key v : Value} {kx : Lit} (hkey : keyOf Try.prog 77 key = some kx) (hat : ∀ zd, D.atKey kx zd = .held v) : ∃ r ∈ R, kx = keyR r ∧ key = .agg #[.string (str r.n), .int .i64 r.k] ∧ v = pt r.b := by
  obtain ⟨E, hE, _, hf⟩ := h.2.2.1
  obtain rfl := owns_same hE hrg.owns
  have h1 := hf kx (keyed.key hkey)
  rw [getF_some (has_true_of_atKey hat), hat] at h1
  unfold tabC at h1
  rw [Option.map_eq_some_iff] at h1
  obtain ⟨r, hr, hv⟩ := h1
  have hm := List.mem_of_find?_eq_some hr
  have hk := hitC_iff.1 (List.find?_some hr)
  refine ⟨r, hm, hk.symm, ?_, hv.symm⟩
  have h2 := kl_key (hwf r hm).key
  rw [hk] at h2
  exact keyed.inj hkey h2
set_option maxRecDepth 100000 in
/-- All rows are still to come. -/
theorem left_all (h : CacM w g og mb most now R) (hwf : ∀ r ∈ R, wfN r.n r.k) (hd : DiffR R) {n : Nat} {D : DataW Value} (hD : w.ownsMap Try.prog 77 RV mb n D) : ∀ r ∈ R, has D (keyR r) = true := by
  intro r hr
  obtain ⟨E, hE, _, hf⟩ := h.2.2.1
  obtain rfl := owns_same hE hD
  have h1 := hf (keyR r) (keyR_lit (r := r) (hwf r hr))
  rw [← getF_isSome, ← h1]
  obtain ⟨P1, P2, rfl⟩ := List.append_of_mem hr
  unfold keyR
  rw [tabC_at hwf hd]
  rfl
def SwRel (w0 : World) (g og mb rr : Nat) (most tm : Int) (R : List Row) (nv : Value) (wr : World) : Prop :=
  ∃ (left : Lit → Bool) (cnt n : Nat) (D : DataW Value), CacM wr g og mb most tm (swF R tm left) ∧ wr.ranges Try.prog 77 RV mb rr n D left cnt ∧ nv = .int .i64 ((R.length - (swF R tm left).length : Nat) : Int) ∧ Shy (wrC g og mb R) w0 wr ∧ w0.heap.size ≤ rr
def SweepD (w w' : World) (g og mb : Nat) (most tm : Int) (R : List Row) (e : Ending) : Prop :=
  e = .returned (.int .i64 ((R.length - (overR R tm).length : Nat) : Int)) ∧ CacM w' g og mb most tm (overR R tm) ∧ Shy (wrC g og mb R) w w'
set_option maxHeartbeats 8000000 in
set_option maxRecDepth 100000 in
theorem sweep_in (h : CacB w g og mb most now R) {at_ : Int} (hat : inTime at_) :
    Calls Try.prog 25 #[pt g, .int .i64 at_] w fun e w' => SweepD w w' g og mb most (tmax now at_) R e := by
  obtain ⟨hM, hO⟩ := h
  obtain ⟨o1, o2, o3, o4, o5, o6, o7⟩ := hO
  have hwf : ∀ s ∈ R, wfN s.n s.k := fun s hs => (o6 s hs).1
  have HM0 := hid hM
  have CAB := hid (absent_no hM)
  have CWI := fun W => within_in at_ W
  rw [decide_eq_true hat] at CWI
  have CWI := hid CWI
  obtain ⟨tm, htm⟩ : ∃ tm, (if now < at_ then at_ else now) = tm := ⟨_, rfl⟩
  have htm2 : tmax now at_ = tm := by unfold tmax; exact htm
  rw [htm2]
  have hlen : R.length ≤ 4096 := by omega
  have HWF := hid hwf
  have HD := hid o7
  simp only [pt]
  clear hM hwf o5 o6 o7 htm2
  go_enter Try.func25, Try.ntmps25
  go_wp2_with fail
  refine CAB.out.mono ?_
  rintro e _ ⟨rfl, rfl⟩
  go_wp2_with fail
  refine (CWI.out _).mono ?_
  rintro e _ ⟨rfl, rfl⟩
  have c1 : w.cell? ⟨g, 1, none⟩ = some (.int .i64 now) := HM0.out.1.cell 1
  have cf := HM0.out.1.frozen
  have h3 := HM0.out.time tm
  have s3 := set_shy g 1 (.int .i64 tm) w
  obtain ⟨w2, hw2⟩ : ∃ w2, w.setCell ⟨g, 1, none⟩ (.int .i64 tm) = w2 := ⟨_, rfl⟩
  rw [hw2] at h3 s3
  have HW2 := hid hw2
  have H3 := hid h3
  have S3 : Hid (Shy (wrC g og mb R) w w2) := hid (s3.mono (fun k _ e => .inl e))
  clear h3 s3 hw2
  go_upto_region 4 with (fail)
  rw [HW2.out]
  clear c1 cf htm
  have c3 : w2.cell? ⟨g, 3, none⟩ = some (.map (some mb)) := H3.out.1.cell 3
  obtain ⟨D, hown, _, hDf⟩ := H3.out.2.2.1
  have LA := hid (left_all H3.out HWF.out HD.out hown)
  have HDF := hid hDf
  have hgl : w.heap.size ≤ w2.heap.size := S3.out.size
  clear hDf
  go_wp2_with (at_range; go_must (refine wpList_range_own _ rfl _ 62 rfl 77 92 keyed Try.underlying62 RV mb R.length D rfl hown ?_); intro w0 hrg0 hg0 hs0)
  have H0 : SwRel w g og mb w2.heap.size most tm R (.int .i64 0) w0 := by
    refine ⟨_, _, _, D, ?_, hrg0, ?_, S3.out.grown hg0 (fun g hg => by cases hg), hgl⟩
    · rw [swF_start LA.out]
      exact H3.out.shy (shy_of_grown hg0) (fun k _ e => by cases e)
    · rw [swF_start LA.out, Nat.sub_self]; rfl
  have H00 := hid H0
  obtain ⟨rr, hrr⟩ : ∃ rr, w2.heap.size = rr := ⟨_, rfl⟩
  rw [hrr] at H00 ⊢
  clear H0 hrg0 hg0 hs0 hown c3 LA HDF hrr
  go_frame
  go_loopw [5] (fun nv wr => SwRel w g og mb rr most tm R nv wr) (fun _ wr => wr.rangeLeft mb rr)
  case atStart => exact H00.out
  case round =>
    obtain ⟨left, cnt, n, D, hm, hrg, rfl, hs, hrr0⟩ := hrel
    have hwf2 : ∀ r ∈ swF R tm left, wfN r.n r.k := fun r hr => HWF.out r (swF_sub r hr)
    have hFl := swF_len (R := R) (tm := tm) (left := left)
    rcases hrg.next keyed 0 with ⟨_, hall, hrun⟩ | ⟨key, v, kx, y, w4, cnt', hkey, hlk, hv, hata, hrun, hrg4, hlt4, hgr, hsz4, hen⟩
    · have hsw := swF_end (R := R) (tm := tm) hall
      rw [hsw] at hm ⊢
      have HM := hid hm
      have HS := hid hs
      clear hm hs hrg hsw hwf2 hall hFl
      go_wp2_with fail
      go_ret
      exact ⟨rfl, HM.out, HS.out⟩
    · simp only [RV, Option.some.injEq] at hv
      subst hv
      obtain ⟨r, hr, rfl, rfl, rfl⟩ := row_at hm hwf2 hrg hkey hata
      have hrR : r ∈ R := swF_sub r hr
      have hb : ∀ k, ownsC g og mb (swF R tm left) k → k < w.heap.size := fun k hk => HM0.out.lt (by
        rcases hk with e | e | e | ⟨q, hq, e⟩ | ⟨q, hq, e⟩
        · exact .inl e
        · exact .inr (.inl e)
        · exact .inr (.inr (.inl e))
        · exact .inr (.inr (.inr (.inl ⟨q, swF_sub q hq, e⟩)))
        · exact .inr (.inr (.inr (.inr ⟨q, swF_sub q hq, e⟩))))
      have hm4 : CacM w4 g og mb most tm (swF R tm left) := hm.shy (shy_of_grown hgr) (fun k hk e => by injection e with e; have := hb k hk; omega)
      have hs4 : Shy (wrC g og mb R) w w4 := hs.grown hgr (fun j hj hlt => by injection hj with hj; omega)
      have LE : Hid (wr.rangeLeft mb rr = cnt) := hid hrg.left_eq
      obtain ⟨F, hF⟩ : ∃ F, F = swF R tm left := ⟨_, rfl⟩
      rw [← hF] at hr hm4 hwf2 hFl hb
      have hdF : DiffR F := by rw [hF]; exact swF_diff HD.out
      obtain ⟨q, hq⟩ : ∃ q, R.length - F.length = q := ⟨_, rfl⟩
      rw [← hF, hq]
      obtain ⟨tt, tv, htv⟩ := thV_if r.x r.A r.c
      obtain ⟨uf, hmeth, hcall, CU⟩ := until_any htv
      have xk := ext_alloc w4 (.cells #[.string (str r.n), .int .i64 r.k] 77)
      have bk := Blk.new w4 77 #[.string (str r.n), .int .i64 r.k]
      obtain ⟨wk, hwk⟩ : ∃ wk, w4.alloc (.cells #[.string (str r.n), .int .i64 r.k] 77) = wk := ⟨_, rfl⟩
      obtain ⟨gk, hgk⟩ : ∃ gk, w4.heap.size = gk := ⟨_, rfl⟩
      rw [hwk] at xk bk
      rw [hgk] at bk
      have MK := hid (hm4.ext xk)
      have SK := hid (hs4.ext xk)
      have RK := hid (ranges_ext hrg4 xk)
      have BK2 := hid bk
      have HWK := hid hwk
      have HGK := hid hgk
      have HR := hid hr
      have HRR := hid hrR
      have HF := hid hF
      have HQ := hid hq
      have HWF2 := hid hwf2
      have HDF := hid hdF
      have HTV := hid htv
      have HLT4 := hid hlt4
      have HBO := hid hb
      have CO := fun W (x : Ext wk W) => of_in ((hm4.ext xk).ext x) hr
      rw [htv] at CO
      simp only [pt] at CO hrun hen
      have CO := hid CO
      obtain ⟨tl, htl⟩ : ∃ tl, r.x.till = tl := ⟨_, rfl⟩
      rw [htl] at CU
      have CU := hid CU
      have HTL := hid htl
      have KEEP : Hid (∀ W, Ext wk W → W.cell? ⟨g, 1, none⟩ = some (.int .i64 tm)) := hid (fun W x => ((hm4.ext xk).ext x).1.cell 1)
      clear hsz4 hm hs hm4 hs4 hrg hrg4 hkey hlk hata xk bk hwk hgk hr hrR hF hq hwf2 hdF htv hlt4 hb htl hgr
      go_upto_region 8 with (fail)
      rw [HWK.out, HGK.out]
      clear hrun hen
      refine wp_region_noPanic ?_
      refine region_E (S := fun W => W.cell? ⟨g, 1, none⟩ = some (.int .i64 tm)) 8 (by kernel_rfl) (by kernel_rfl) (by kernel_rfl) ?_
      refine EG_take 0 (v := ?v1) (by simp only [lga, lgb, lgc]; rfl) (by kernel_rfl) (by kernel_rfl) (by decide) (fun _ _ _ h => h) (Or.inl ⟨by rfl, ?hy1⟩) (KEEP.out _ (ext_drew _)) ?rest1
      case hy1 => intro W hSW; (try dsimp only at hSW); obtain e0 := hSW; go_simp <;> with_reducible rfl
      try simp only [Act.put, lsa, lsb, lsc]
      refine EG_take 4 (v := ?v2) (by simp only [lga, lgb, lgc]; rfl) (by kernel_rfl) (by kernel_rfl) (by decide) (fun _ _ _ h => h) (Or.inl ⟨by rfl, ?hy2⟩) (KEEP.out _ (ext_drew _)) ?rest2
      case hy2 => intro W hSW; (try dsimp only at hSW); obtain e0 := hSW; go_simp <;> with_reducible rfl
      try simp only [Act.put, lsa, lsb, lsc]
      refine EG_take 5 (v := ?v3) (by simp only [lga, lgb, lgc]; rfl) (by kernel_rfl) (by kernel_rfl) (by decide) (fun _ _ _ h => h) (Or.inl ⟨by rfl, ?hy3⟩) (KEEP.out _ (ext_drew _)) ?rest3
      case hy3 => intro W hSW; (try dsimp only at hSW); obtain e0 := hSW; go_simp <;> with_reducible rfl
      try simp only [Act.put, lsa, lsb, lsc]
      refine EG_take 6 (v := ?v4) (by simp only [lga, lgb, lgc]; rfl) (by kernel_rfl) (by kernel_rfl) (by decide) (fun _ _ _ h => h) (Or.inl ⟨by rfl, ?hy4⟩) (KEEP.out _ (ext_drew _)) ?rest4
      case hy4 => intro W hSW; (try dsimp only at hSW); obtain e0 := hSW; go_simp <;> with_reducible rfl
      try simp only [Act.put, lsa, lsb, lsc]
      refine EG_take 7 (v := ?v5) (by simp only [lga, lgb, lgc]; rfl) (by kernel_rfl) (by kernel_rfl) (by decide) (fun _ _ _ h => h) (Or.inl ⟨by rfl, ?hy5⟩) (KEEP.out _ (ext_drew _)) ?rest5
      case hy5 => intro W hSW; (try dsimp only at hSW); obtain e0 := hSW; go_simp <;> with_reducible rfl
      try simp only [Act.put, lsa, lsb, lsc]
      refine EG_one 1 (by kernel_rfl) (by simp only [lga, lgb, lgc]; rfl) (by decide) ?_
      intro K hK0
      have hK := hid hK0
      clear hK0
      go_simp
      refine (CO.out _ (ext_drew _)).mono ?_
      rintro e w5 ⟨rfl, x5⟩
      have X5 : Hid (Ext wk w5) := hid (ext_trans (ext_drew _) x5)
      clear x5
      have hft := fun W => field_thing (str r.n) r.k tt tv W
      go_simp
      refine hK.out _ _ (KEEP.out _ X5.out) ?_
      clear hK K
      try simp only [Act.put, lsa, lsb, lsc]
      refine EG_take 2 (v := ?v6) (by simp only [lga, lgb, lgc]; rfl) (by kernel_rfl) (by kernel_rfl) (by decide) (fun _ _ _ h => h) (Or.inl ⟨by rfl, ?hy6⟩) (KEEP.out _ X5.out) ?rest6
      case hy6 => intro W hSW; (try dsimp only at hSW); obtain e0 := hSW; go_simp <;> with_reducible rfl
      try simp only [Act.put, lsa, lsb, lsc]
      refine EG_one 3 (by kernel_rfl) (by simp only [lga, lgb, lgc]; rfl) (by decide) ?_
      intro K hK0
      have hK := hid hK0
      clear hK0
      go_simp
      refine (CU.out _).mono ?_
      rintro e w6 ⟨rfl, x6⟩
      have X6 : Hid (Ext wk w6) := hid (ext_trans X5.out x6)
      clear x6
      go_simp
      refine hK.out _ _ (KEEP.out _ X6.out) ?_
      clear hK K
      try simp only [Act.put, lsa, lsb, lsc]
      refine EG_end (by kernel_rfl) (by simp only [lga, lgb, lgc]; rfl) ?_
      intro K hK0
      have hK := hid hK0
      clear hK0
      go_simp
      refine hK.out _ _ ?_
      clear hK K
      refine NoPanic.normal ?_
      have B6 := BK2.out.ext X6.out
      have k0 : w6.cell? ⟨gk, 0, none⟩ = some (.string (str r.n)) := B6.cell 0
      have k1 : w6.cell? ⟨gk, 1, none⟩ = some (.int .i64 r.k) := B6.cell 1
      clear hft hmeth hcall
      by_cases hov : tl ≤ tm
      · have j1 : decide (tl ≤ tm) = true := by simpa using hov
        obtain ⟨P1, P2, hP⟩ := List.append_of_mem HR.out
        have CR := out_ran (P1 := P1) (P2 := P2) (r := r) (by rw [← hP]; exact MK.out.ext X6.out) (by rw [← hP]; exact HWF2.out) (by rw [← hP]; exact HDF.out) (ranges_ext RK.out X6.out) (by
          refine ⟨fun e => ?_, fun e => ?_⟩
          · have := HBO.out og (.inr (.inl rfl)); omega
          · rw [← hP] at e
            obtain ⟨z, hz, e2⟩ := List.mem_map.1 e
            obtain ⟨s, hs, e3⟩ := mem_elt hz
            have := HBO.out s.b (.inr (.inr (.inr (.inl ⟨s, hs, rfl⟩))))
            omega)
        simp only [pt] at CR
        have CR := hid CR
        have HP := hid hP
        clear hP B6
        go_wp2_with fail
        refine CR.out.mono ?_
        rintro e w7 ⟨rfl, m7, s7, cnt7, hle7, rg7⟩
        have hF7 : swF R tm (fun x => (left x && !x.sameKey (keyR r)) && !x.sameKey (keyR r)) = P1 ++ P2 := by
          rw [swF_out HWF.out HD.out HRR.out (by rw [HTL.out]; exact hov), ← HF.out, HP.out]
          have h2 := HDF.out
          rw [HP.out] at h2
          exact outR_yes h2
        have hl7 : (P1 ++ P2).length + 1 = F.length := by rw [HP.out]; simp; omega
        have REL : SwRel w g og mb rr most tm R (.int .i64 ((q : Int) + 1)) w7 := by
          refine ⟨fun x => (left x && !x.sameKey (keyR r)) && !x.sameKey (keyR r), cnt7, n, _, by rw [hF7]; exact m7, rg7, ?_, (SK.out.ext X6.out).trans s7 (fun k _ e => e.sub (fun s hs => ?_)), hrr0⟩
          · rw [hF7]
            have := HQ.out
            rw [show R.length - (P1 ++ P2).length = q + 1 from by omega]
            go_num
          · have h2 : s ∈ F := by rw [HP.out]; exact hs
            rw [HF.out] at h2
            exact swF_sub s h2
        have MEA : w7.rangeLeft mb rr < wr.rangeLeft mb rr := by rw [rg7.left_eq, LE.out]; have := HLT4.out; omega
        have REL := hid REL
        have MEA := hid MEA
        have hq9 : (q : Int) + 1 ≤ 5000 := by have := HQ.out; omega
        clear m7 s7 rg7 hF7 hl7 CR k0 k1 hle7
        go_wp2_with fail
        go_roundw
        case rel => exact REL.out
        case measure => exact MEA.out
      · have j1 : decide (tl ≤ tm) = false := by simpa using hov
        have hF7 := swF_keep HWF.out HD.out (left := left) HRR.out (by rw [HTL.out]; exact hov)
        have RG6 := ranges_ext RK.out X6.out
        have REL : SwRel w g og mb rr most tm R (.int .i64 (q : Int)) w6 := by
          refine ⟨_, cnt', n, _, by rw [hF7, ← HF.out]; exact MK.out.ext X6.out, RG6, ?_, SK.out.ext X6.out, hrr0⟩
          rw [hF7, ← HF.out, HQ.out]
        have MEA : w6.rangeLeft mb rr < wr.rangeLeft mb rr := by rw [RG6.left_eq, LE.out]; exact HLT4.out
        have REL := hid REL
        have MEA := hid MEA
        clear hF7 RG6 B6 k0 k1
        go_wp2_with fail
        go_roundw
        case rel => exact REL.out
        case measure => exact MEA.out
end
end Go.Proofs.Ytcddfenhkljpeaa
/- Layer 23: all that a cache answers, whatever it is asked. -/
namespace Go.BK.CH
def goneO (L : List Ent) (t : Int) : List Ent := L.filter (fun e => !decide (e.x.till ≤ t))
end Go.BK.CH
namespace Go.Proofs.Ytcddfenhkljpeaa
open Go.BK Go.BK.CH Go.BK.NM Go.RowKit Go.Maps
set_option linter.unusedVariables false
set_option linter.unusedSimpArgs false
theorem over_ent (R : List Row) (t : Int) : (overR R t).map Row.ent = goneO (R.map Row.ent) t := by
  unfold overR goneO
  rw [List.filter_map]
  rfl
def putBad (x : SetS) (rank at_ : Int) : Prop := chkS x ≠ 0 ∨ x.cl ≠ 1 ∨ x.ty = 0 ∨ rank < 1 ∨ 3 < rank ∨ ¬ inTime at_
instance (x : SetS) (rank at_ : Int) : Decidable (putBad x rank at_) := by unfold putBad; infer_instance
def putG (most : Int) (s : StC) (x : SetS) (rank at_ : Int) : StC × Bool × Int :=
  if putBad x rank at_ then (s, false, 2) else if x.ttl = 0 then (⟨tmax s.now at_, s.L⟩, false, 0) else ((putS most s x rank at_).1, (putS most s x rank at_).2, 0)
def noneBad (n : List UInt8) (kind ttl at_ : Int) : Prop := checkS n ≠ 0 ∨ kind < 0 ∨ 65535 < kind ∨ ttl < 0 ∨ 2147483648 ≤ ttl ∨ ¬ inTime at_
instance (n : List UInt8) (kind ttl at_ : Int) : Decidable (noneBad n kind ttl at_) := by unfold noneBad; infer_instance
def noneG (most : Int) (s : StC) (n : List UInt8) (kind ttl at_ : Int) : StC × Bool × Int :=
  if noneBad n kind ttl at_ then (s, false, 2) else if ttl = 0 then (⟨tmax s.now at_, s.L⟩, false, 0) else (putNoneS most s n kind ttl at_, true, 0)
def getBad (n : List UInt8) (at_ : Int) : Prop := checkS n ≠ 0 ∨ ¬ inTime at_
instance (n : List UInt8) (at_ : Int) : Decidable (getBad n at_) := by unfold getBad; infer_instance
def getG (s : StC) (n : List UInt8) (kind rank at_ : Int) : StC × FoundS := if getBad n at_ then (s, ⟨0, zeroS, 0⟩) else getS s n kind rank at_
def sweepG (s : StC) (at_ : Int) : StC × Nat :=
  if inTime at_ then (⟨tmax s.now at_, goneO s.L (tmax s.now at_)⟩, s.L.length - (goneO s.L (tmax s.now at_)).length) else (s, 0)
theorem putBad_no {x : SetS} {rank at_ : Int} (h : ¬ putBad x rank at_) : chkS x = 0 ∧ x.cl = 1 ∧ x.ty ≠ 0 ∧ ¬ rank < 1 ∧ ¬ 3 < rank ∧ inTime at_ := by
  unfold putBad at h
  simp only [not_or, Classical.not_not, ne_eq] at h
  exact h
theorem noneBad_no {n : List UInt8} {kind ttl at_ : Int} (h : ¬ noneBad n kind ttl at_) : checkS n = 0 ∧ ¬ kind < 0 ∧ ¬ 65535 < kind ∧ ¬ ttl < 0 ∧ ¬ 2147483648 ≤ ttl ∧ inTime at_ := by
  unfold noneBad at h
  simp only [not_or, Classical.not_not, ne_eq] at h
  exact h
section
variable {U : Nat → Prop} {w w' : World} {g : Nat} {most : Int} {s : StC}
theorem sweep_ok (h : StOk most s) {at_ : Int} (hat : inTime at_) : StOk most (sweepG s at_).1 := by
  unfold sweepG
  rw [if_pos hat]
  have ht := tmax_range h.2.1 hat
  refine ⟨h.1, ht, ?_, fun e he => h.2.2.2.1 e (List.mem_filter.1 he).1, List.Pairwise.filter _ h.2.2.2.2⟩
  have h1 : (goneO s.L (tmax s.now at_)).length ≤ s.L.length := List.length_filter_le _ _
  have h2 := h.2.2.1
  simp only
  omega
theorem Qc.time (h : Qc U w g most s) {og mb : Nat} {R : List Row} {t : Int} (ht : 0 ≤ t ∧ t ≤ 1099511627776) (hm : CacM w' g og mb most t R) (hR : R.map Row.ent = s.L) (hk : ∀ k, ownsC g og mb R k → U k) : Qc U w' g most ⟨t, s.L⟩ :=
  ⟨h.1.time ht, og, mb, R, hm, hR, hk⟩
theorem qc_more (h : Qc U w' g most s) (hz : w.heap.size ≤ w'.heap.size) : Qc (More U w) w' g most s := h.mono fun k _ u => .inl u
theorem c_put_any (h : Qc U w g most s) {x : SetS} {A : Option Addr} {c : Nat} (hA : RdG w 1 A x.data.length c (tvs x.data)) (hn : x.nm.length ≤ 2000000) (hd : ∀ d ∈ x.data, d.length ≤ 65535) {rank at_ : Int} (hAb : 1 ≤ x.data.length → ∀ k, blk A = some k → ¬ U k) :
    Calls Try.prog 14 #[pt g, .agg #[.string (str x.nm), .int .i64 x.ty, .int .i64 x.cl, .int .i64 x.ttl, .slice A x.data.length c], .int .i64 rank, .int .i64 at_] w fun e w' =>
      e = .returned (.tuple #[.bool (putG most s x rank at_).2.1, .int .i64 (putG most s x rank at_).2.2]) ∧ Qc (More U w) w' g most (putG most s x rank at_).1 ∧ Shy U w w' := by
  by_cases hb : putBad x rank at_
  · have eg : putG most s x rank at_ = (s, false, 2) := by unfold putG; rw [if_pos hb]
    rw [eg]
    obtain ⟨h1, og, mb, R, h2, h3, h4⟩ := h
    have fin : ∀ e w', e = Ending.returned (.tuple #[.bool false, .int .i64 2]) ∧ Ext w w' → e = .returned (.tuple #[.bool false, .int .i64 2]) ∧ Qc (More U w) w' g most s ∧ Shy U w w' := by
      rintro e w' ⟨rfl, x⟩
      exact ⟨rfl, ⟨h1, og, mb, R, h2.ext x, h3, fun k hk => .inl (h4 k hk)⟩, Shy.of_ext x⟩
    by_cases b1 : chkS x = 0
    rotate_left
    · exact (putset_bad1 h2 hA hn hd b1).mono fin
    by_cases b2 : x.cl = 1
    rotate_left
    · exact (putset_bad2 h2 hA hn hd ⟨b1, b2⟩).mono fin
    by_cases b3 : x.ty = 0
    · exact (putset_bad3 h2 hA hn hd ⟨b1, b2, b3⟩).mono fin
    by_cases b4 : rank < 1
    · exact (putset_bad4 h2 hA hn hd ⟨b1, b2, b3, b4⟩).mono fin
    by_cases b5 : 3 < rank
    · exact (putset_bad5 h2 hA hn hd ⟨b1, b2, b3, b4, b5⟩).mono fin
    refine (putset_bad6 h2 hA hn hd ⟨b1, b2, b3, b4, b5, fun b6 => ?_⟩).mono fin
    rcases hb with e | e | e | e | e | e
    · exact e b1
    · exact e b2
    · exact b3 e
    · exact b4 e
    · exact b5 e
    · exact e b6
  · obtain ⟨b1, b2, b3, b4, b5, b6⟩ := putBad_no hb
    by_cases ht : x.ttl = 0
    · have eg : putG most s x rank at_ = (⟨tmax s.now at_, s.L⟩, false, 0) := by unfold putG; rw [if_neg hb, if_pos ht]
      rw [eg]
      obtain ⟨h1, og, mb, R, h2, h3, h4⟩ := h
      refine (putset_zero h2 hA hn hd ⟨b1, b2, b3, b4, b5, ht⟩ b6).mono ?_
      rintro e w' ⟨rfl, hm, hs⟩
      exact ⟨rfl, ⟨h1.time (tmax_range h1.2.1 b6), og, mb, R, hm, h3, fun k hk => .inl (h4 k hk)⟩, hs.mono fun k _ e => h4 k e.to⟩
    · have eg : putG most s x rank at_ = ((putS most s x rank at_).1, (putS most s x rank at_).2, 0) := by unfold putG; rw [if_neg hb, if_neg ht]
      rw [eg]
      have hok := chk_ok b1 hn hd
      exact c_put h hA hok b2 b3 (by have := hok.2.2.2.2.1; omega) (by omega) (by omega) b6 (hAb hok.2.2.2.2.2.1.1)
theorem c_none_any (h : Qc U w g most s) {n : List UInt8} {kind ttl at_ : Int} (hn : n.length ≤ 2000000) :
    Calls Try.prog 17 #[pt g, .string (str n), .int .i64 kind, .int .i64 ttl, .int .i64 at_] w fun e w' =>
      e = .returned (.tuple #[.bool (noneG most s n kind ttl at_).2.1, .int .i64 (noneG most s n kind ttl at_).2.2]) ∧ Qc (More U w) w' g most (noneG most s n kind ttl at_).1 ∧ Shy U w w' := by
  by_cases hb : noneBad n kind ttl at_
  · have eg : noneG most s n kind ttl at_ = (s, false, 2) := by unfold noneG; rw [if_pos hb]
    rw [eg]
    obtain ⟨h1, og, mb, R, h2, h3, h4⟩ := h
    have fin : ∀ e w', e = Ending.returned (.tuple #[.bool false, .int .i64 2]) ∧ Ext w w' → e = .returned (.tuple #[.bool false, .int .i64 2]) ∧ Qc (More U w) w' g most s ∧ Shy U w w' := by
      rintro e w' ⟨rfl, x⟩
      exact ⟨rfl, ⟨h1, og, mb, R, h2.ext x, h3, fun k hk => .inl (h4 k hk)⟩, Shy.of_ext x⟩
    by_cases b1 : checkS n = 0
    rotate_left
    · exact (putnone_bad1 h2 hn b1).mono fin
    by_cases b2 : kind < 0
    · exact (putnone_bad2 h2 hn ⟨b1, b2⟩).mono fin
    by_cases b3 : 65535 < kind
    · exact (putnone_bad3 h2 hn ⟨b1, b2, b3⟩).mono fin
    by_cases b4 : ttl < 0
    · exact (putnone_bad4 h2 hn ⟨b1, b2, b3, b4⟩).mono fin
    by_cases b5 : 2147483648 ≤ ttl
    · exact (putnone_bad5 h2 hn ⟨b1, b2, b3, b4, b5⟩).mono fin
    refine (putnone_bad6 h2 hn ⟨b1, b2, b3, b4, b5, fun b6 => ?_⟩).mono fin
    rcases hb with e | e | e | e | e | e
    · exact e b1
    · exact b2 e
    · exact b3 e
    · exact b4 e
    · exact b5 e
    · exact e b6
  · obtain ⟨b1, b2, b3, b4, b5, b6⟩ := noneBad_no hb
    by_cases ht : ttl = 0
    · have eg : noneG most s n kind ttl at_ = (⟨tmax s.now at_, s.L⟩, false, 0) := by unfold noneG; rw [if_neg hb, if_pos ht]
      rw [eg]
      obtain ⟨h1, og, mb, R, h2, h3, h4⟩ := h
      refine (putnone_zero h2 hn ⟨b1, b2, b3, ht⟩ b6).mono ?_
      rintro e w' ⟨rfl, hm, hs⟩
      exact ⟨rfl, ⟨h1.time (tmax_range h1.2.1 b6), og, mb, R, hm, h3, fun k hk => .inl (h4 k hk)⟩, hs.mono fun k _ e => h4 k e.to⟩
    · have eg : noneG most s n kind ttl at_ = (putNoneS most s n kind ttl at_, true, 0) := by unfold noneG; rw [if_neg hb, if_neg ht]
      rw [eg]
      exact c_putnone h hn b1 b6 (by omega) (by omega)
theorem c_get_any (h : Qc U w g most s) {n : List UInt8} {kind rank at_ : Int} (hn : n.length ≤ 2000000) (hki : -9223372036854775808 ≤ kind ∧ kind ≤ 9223372036854775807) :
    Calls Try.prog 15 #[pt g, .string (str n), .int .i64 kind, .int .i64 rank, .int .i64 at_] w fun e w' => GetD U w w' g most (getG s n kind rank at_).1 (getG s n kind rank at_).2 e := by
  by_cases hb : getBad n at_
  · have eg : getG s n kind rank at_ = (s, ⟨0, zeroS, 0⟩) := by unfold getG; rw [if_pos hb]
    rw [eg]
    obtain ⟨h1, og, mb, R, h2, h3, h4⟩ := h
    have fin : ∀ e w', e = Ending.returned (.agg #[.int .i64 0, .string ⟨#[]⟩, .int .i64 0, .int .i64 0, .int .i64 0, .slice none 0 0, .int .i64 0]) ∧ Ext w w' → GetD U w w' g most s ⟨0, zeroS, 0⟩ e := by
      rintro e w' ⟨rfl, x⟩
      exact getD_none rfl rfl ⟨h1, og, mb, R, h2.ext x, h3, h4⟩ (Shy.of_ext x)
    by_cases b1 : checkS n = 0
    rotate_left
    · exact (get_bad1 h2 hn b1).mono fin
    refine (get_bad2 h2 hn ⟨b1, fun b2 => ?_⟩).mono fin
    rcases hb with e | e
    · exact e b1
    · exact e b2
  · have eg : getG s n kind rank at_ = getS s n kind rank at_ := by unfold getG; rw [if_neg hb]
    rw [eg]
    have hb2 : checkS n = 0 ∧ inTime at_ := by
      unfold getBad at hb
      simp only [not_or, Classical.not_not, ne_eq] at hb
      exact hb
    exact c_get h hn hb2.1 hb2.2 hki
set_option maxHeartbeats 2000000 in
set_option maxRecDepth 100000 in
theorem sweep_late {og mb : Nat} {now : Int} {R : List Row} (h : CacM w g og mb most now R) {at_ : Int} (hat : ¬ inTime at_) :
    Calls Try.prog 25 #[pt g, .int .i64 at_] w fun e w' => e = .returned (.int .i64 0) ∧ w = w' := by
  have CAB := hid (absent_no h)
  have CWI := fun W => within_in at_ W
  rw [decide_eq_false hat] at CWI
  have CWI := hid CWI
  simp only [pt]
  clear h
  go_enter Try.func25, Try.ntmps25
  go_wp2_with fail
  refine CAB.out.mono ?_
  rintro e _ ⟨rfl, rfl⟩
  go_wp2_with fail
  refine (CWI.out _).mono ?_
  rintro e _ ⟨rfl, rfl⟩
  go_wp2_with fail
  go_ret
  exact ⟨rfl, rfl⟩
theorem c_sweep (h : Qc U w g most s) (at_ : Int) :
    Calls Try.prog 25 #[pt g, .int .i64 at_] w fun e w' => e = .returned (.int .i64 ((sweepG s at_).2 : Nat)) ∧ Qc U w' g most (sweepG s at_).1 ∧ Shy U w w' := by
  by_cases hat : inTime at_
  · have hok := sweep_ok h.1 hat
    obtain ⟨now, L⟩ := s
    obtain ⟨h1, og, mb, R, h2, h3, h4⟩ := h
    simp only at h2 h3
    subst h3
    have hB : CacB w g og mb most now R := ⟨h2, ok_rows h1⟩
    unfold sweepG at hok ⊢
    rw [if_pos hat] at hok ⊢
    refine (sweep_in hB hat).mono ?_
    rintro e w' ⟨rfl, hm, hs⟩
    simp only at hok ⊢
    refine ⟨by rw [← over_ent, List.length_map, List.length_map], ⟨hok, og, mb, overR R (tmax now at_), hm, over_ent R _, fun k hk => h4 k ?_⟩, hs.mono fun k _ e => h4 k e.to⟩
    rcases hk with e | e | e | ⟨q, hq, e⟩ | ⟨q, hq, e⟩
    · exact .inl e
    · exact .inr (.inl e)
    · exact .inr (.inr (.inl e))
    · exact .inr (.inr (.inr (.inl ⟨q, (List.mem_filter.1 hq).1, e⟩)))
    · exact .inr (.inr (.inr (.inr ⟨q, (List.mem_filter.1 hq).1, e⟩)))
  · obtain ⟨h1, og, mb, R, h2, h3, h4⟩ := h
    unfold sweepG
    rw [if_neg hat]
    refine (sweep_late h2 hat).mono ?_
    rintro e w' ⟨rfl, rfl⟩
    exact ⟨rfl, ⟨h1, og, mb, R, h2, h3, h4⟩, Shy.refl _⟩
end
end Go.Proofs.Ytcddfenhkljpeaa

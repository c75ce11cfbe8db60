import Derived.Test.YtcddfenhkljpeaaChcC
/- Layer 23: put. (Printed by gen_chcd.py.) -/
namespace Go.Proofs.Ytcddfenhkljpeaa
open Go.BK Go.BK.CH Go.BK.NM Go.RowKit Go.Maps
set_option linter.unusedVariables false
set_option linter.unusedSimpArgs false
def outR (R : List Row) (n : List UInt8) (k : Int) : List Row := R.filter (fun r => !decide (r.is n k))
theorem outR_no {R : List Row} {n : List UInt8} {k : Int} (h : ∀ r ∈ R, ¬ r.is n k) : outR R n k = R := by
  unfold outR
  rw [List.filter_eq_self]
  intro r hr
  simp [h r hr]
theorem outR_yes {P1 P2 : List Row} {r : Row} (hd : DiffR (P1 ++ r :: P2)) : outR (P1 ++ r :: P2) r.n r.k = P1 ++ P2 := by
  unfold DiffR at hd
  rw [List.pairwise_append, List.pairwise_cons] at hd
  unfold outR
  rw [List.filter_append, List.filter_cons]
  have h1 : P1.filter (fun s => !decide (s.is r.n r.k)) = P1 := outR_no fun s hs => hd.2.2 s hs r (by simp)
  have h2 : P2.filter (fun s => !decide (s.is r.n r.k)) = P2 := outR_no fun s hs e => hd.2.1.1 s hs ⟨e.1.symm, e.2.symm⟩
  rw [h1, h2]
  simp [Row.is]
theorem outR_split {R : List Row} {n : List UInt8} {k : Int} : (∀ r ∈ R, ¬ r.is n k) ∨ ∃ P1 r P2, R = P1 ++ r :: P2 ∧ r.n = n ∧ r.k = k := by
  by_cases h : ∀ r ∈ R, ¬ r.is n k
  · exact .inl h
  · right
    simp only [Classical.not_forall, Classical.not_not] at h
    obtain ⟨r, hr, hi⟩ := h
    obtain ⟨P1, P2, rfl⟩ := List.append_of_mem hr
    exact ⟨P1, r, P2, rfl, hi.1, hi.2⟩
theorem outR_sub {R : List Row} {n : List UInt8} {k : Int} : ∀ r ∈ outR R n k, r ∈ R := fun r hr => (List.mem_filter.1 hr).1
theorem outR_hno {R : List Row} {n : List UInt8} {k : Int} : ∀ r ∈ outR R n k, ¬ r.is n k := fun r hr => by simpa using (List.mem_filter.1 hr).2
theorem outR_diff {R : List Row} {n : List UInt8} {k : Int} (h : DiffR R) : DiffR (outR R n k) := List.Pairwise.filter _ h
theorem outR_len {R : List Row} {n : List UInt8} {k : Int} : (outR R n k).length ≤ R.length := List.length_filter_le _ _
section
variable {w w' w5 w6 : World} {g og mb : Nat} {most now : Int} {R P1 P2 : List Row} {r : Row}
theorem wrC.sub {P Q : List Row} {k : Nat} (h : wrC g og mb P k) (hs : ∀ r ∈ P, r ∈ Q) : wrC g og mb Q k := by
  rcases h with h | h | h | ⟨r, hr, h⟩
  · exact .inl h
  · exact .inr (.inl h)
  · exact .inr (.inr (.inl h))
  · exact .inr (.inr (.inr ⟨r, hs r hr, h⟩))
theorem out_any (h : CacM w g og mb most now R) {n : List UInt8} {k : Int} (hwf : ∀ r ∈ R, wfN r.n r.k) (hd : DiffR R) (hk : wfN n k) :
    Calls Try.prog 39 #[pt g, .agg #[.string (str n), .int .i64 k]] w fun e w' => e = .returned (.tuple #[]) ∧ CacM w' g og mb most now (outR R n k) ∧ Shy (wrC g og mb R) w w' := by
  rcases outR_split (R := R) (n := n) (k := k) with hno | ⟨P1, r, P2, rfl, rfl, rfl⟩
  · refine (out_no h hwf hk hno).mono ?_
    rintro e w' ⟨rfl, x⟩
    rw [outR_no hno]
    exact ⟨rfl, h.ext x, Shy.of_ext x⟩
  · refine (out_yes h hwf hd).mono ?_
    rintro e w' ⟨rfl, h, s⟩
    rw [outR_yes hd]
    exact ⟨rfl, h, s⟩
theorem CacM.push (h : CacM w g og mb most now R) (hwf : ∀ s ∈ R, wfN s.n s.k) (hr : wfN r.n r.k) (hno : ∀ s ∈ R, ¬ s.is r.n r.k) (hnew : w.heap.size ≤ r.b)
    (ho : OwnG isT w 0 9 1 r.A r.x.data.length r.c (tvs r.x.data))
    (ring : RingB w5 og (R.map eltC ++ [eltC r])) (s1 : Shy (fun k => k = og ∨ k ∈ (R.map eltC).map Prod.fst) w w5)
    (m : MapF Try.prog w6 77 mb (putF (tabC R) (kl (str r.n) r.k) (pt r.b)) (R.length + 1)) (s2 : Shy (fun k => k = mb) w5 w6)
    (hA : ∀ k, blk r.A = some k → ¬ wrC g og mb R k) : CacM w6 g og mb most now (R ++ [r]) ∧ Shy (wrC g og mb R) w w6 := by
  obtain ⟨n1, n2, n3, n4, n5⟩ := h.ne
  have hel : ∀ k, k ∈ (R.map eltC).map Prod.fst → ∃ s ∈ R, s.b = k := fun k hk => by
    obtain ⟨y, hy, rfl⟩ := List.mem_map.1 hk
    exact mem_elt hy
  have hs1 := s1.size
  have hmb : mb < w.heap.size := h.2.2.1.lt
  have keep : ∀ s : Row, OwnG isT w 0 9 1 s.A s.x.data.length s.c (tvs s.x.data) → (∀ k, blk s.A = some k → ¬ wrC g og mb R k) → OwnG isT w6 0 9 1 s.A s.x.data.length s.c (tvs s.x.data) := fun s o hw => by
    refine s2.ownG (s1.ownG o (fun k hk e => hw k hk ?_)) (fun k hk e => hw k hk (.inr (.inr (.inl e))))
    rcases e with e | e
    · exact .inr (.inl e)
    · exact .inr (.inr (.inr (hel k e)))
  refine ⟨⟨(h.1.shy s1 (fun e => ?_)).shy s2 n2, ?_, (by rw [List.length_append]; exact m.congr (fun x => tabC_put hwf hr hno x)), fun s hs => ?_⟩, ?_⟩
  · rcases e with e | e
    · exact n1 e
    · obtain ⟨s, hs, e2⟩ := hel _ e
      exact (n4 s hs).1 e2
  · rw [List.map_append]
    refine RingB.shy ring s2 n3 (fun y hy e => ?_)
    rw [List.mem_append] at hy
    rcases hy with hy | hy
    · obtain ⟨s, hs, e2⟩ := mem_elt hy
      exact (n4 s hs).2.2 (e2.trans e)
    · have hy : y = eltC r := by simpa using hy
      subst hy
      have e2 : r.b = mb := e
      omega
  · rw [List.mem_append, List.mem_singleton] at hs
    rcases hs with hs | rfl
    · refine keep s (h.2.2.2 s hs) (fun k hk e => ?_)
      obtain ⟨q1, q2, q3, q4⟩ := n5 s hs
      rcases e with e | e | e | ⟨s2, hs2, e⟩
      · exact q1 (e ▸ hk)
      · exact q2 (e ▸ hk)
      · exact q3 (e ▸ hk)
      · exact q4 s2 hs2 (by rw [e]; exact hk)
    · exact keep _ ho hA
  · refine (s1.mono (fun k _ e => ?_)).trans s2 (fun k _ e => .inr (.inr (.inl e)))
    rcases e with e | e
    · exact .inr (.inl e)
    · exact .inr (.inr (.inr (hel k e)))
def putR (most : Int) (R : List Row) (r : Row) : List Row := if most < ((outR R r.n r.k ++ [r]).length : Int) then (outR R r.n r.k ++ [r]).tail else outR R r.n r.k ++ [r]
def PutD (w w' : World) (g og mb : Nat) (most now : Int) (R : List Row) (n : List UInt8) (k : Int) (x : Th) (A : Option Addr) (c : Nat) (e : Ending) : Prop :=
  ∃ b, e = .returned (.tuple #[]) ∧ w.heap.size ≤ b ∧ CacM w' g og mb most now (putR most R ⟨n, k, x, b, A, c⟩) ∧ Shy (wrC g og mb R) w w'
theorem CacM.lenRun (h : CacM w g og mb most now R) (ty : TypeId) : (Builtin.len_ #[62] ty #[.map (some mb)]).run Try.prog w = .ok (.int .i64 (R.length : Nat)) w := h.2.2.1.len (t := 62) Try.underlying62 ty
theorem field_key (n : ByteArray) (k : Int) (t : TypeId) (v : Value) (w : World) : (Instr.field 95 (.agg #[.string n, .int .i64 k, .iface t v]) 0).run Try.prog w = .ok (.agg #[.string n, .int .i64 k]) w := by
  kernel_rfl
theorem field_thing (n : ByteArray) (k : Int) (t : TypeId) (v : Value) (w : World) : (Instr.field 95 (.agg #[.string n, .int .i64 k, .iface t v]) 1).run Try.prog w = .ok (.iface t v) w := by
  kernel_rfl
set_option maxHeartbeats 4000000 in
set_option maxRecDepth 100000 in
theorem put_in (h : CacM w g og mb most now R) (hm : 1 ≤ most ∧ most ≤ 4096) (hl : (R.length : Int) ≤ most) (hwf : ∀ r ∈ R, wfN r.n r.k) (hd : DiffR R) {n : List UInt8} {k : Int} (hk : wfN n k) (x : Th) (A : Option Addr) (c : Nat)
    (ho : OwnG isT w 0 9 1 A x.data.length c (tvs x.data)) (hA : ∀ j, blk A = some j → ¬ wrC g og mb R j) :
    Calls Try.prog 41 #[pt g, .agg #[.string (str n), .int .i64 k], thV x A c] w fun e w' => PutD w w' g og mb most now R n k x A c e := by
  have xa := ext_alloc w (.cells #[.string (str n), .int .i64 k] 77)
  have ba := Blk.new w 77 #[.string (str n), .int .i64 k]
  have h2 := h.ext xa
  obtain ⟨wa, hwa⟩ : ∃ wa, w.alloc (.cells #[.string (str n), .int .i64 k] 77) = wa := ⟨_, rfl⟩
  obtain ⟨gk, hgk⟩ : ∃ gk, w.heap.size = gk := ⟨_, rfl⟩
  rw [hwa] at xa ba h2
  rw [hgk] at ba
  have C1 := hid (out_any h2 hwf hd hk)
  have k0 : wa.cell? ⟨gk, 0, none⟩ = some (.string (str n)) := ba.cell 0
  have k1 : wa.cell? ⟨gk, 1, none⟩ = some (.int .i64 k) := ba.cell 1
  obtain ⟨tt, tv, htv⟩ := thV_if x A c
  have HTV := hid htv
  have H := hid h
  have XA := hid xa
  have BA := hid ba
  have H2 := hid h2
  have HWA := hid hwa
  have HGK := hid hgk
  have HWF := hid hwf
  have HD := hid hd
  have HK := hid hk
  have HO := hid ho
  have HAA := hid hA
  have K0 := hid k0
  have K1 := hid k1
  have HL := hid hl
  rw [htv]
  simp only [pt] at C1 ⊢
  clear h h2 xa ba hwa hgk hwf hd hk ho hA k0 k1 hl htv
  go_enter Try.func41, Try.ntmps41
  go_upto_region 1 with (fail)
  rw [HWA.out, HGK.out]
  have k0 := K0.out
  have k1 := K1.out
  go_wp2_with fail
  refine C1.out.mono ?_
  rintro e w1 ⟨rfl, h1, s1⟩
  obtain ⟨R1, hR1⟩ : ∃ R1, outR R n k = R1 := ⟨_, rfl⟩
  rw [hR1] at h1
  have hgkw : ∀ j, wrC g og mb R j → j ≠ gk := fun j hj e => by
    have := H.out.lt hj.to
    have := HGK.out
    omega
  have B1 := hid (BA.out.shy s1 (fun e => hgkw _ e rfl))
  have H1 := hid h1
  have S1 := hid s1
  have hs1z := s1.size
  have HR1 := hid hR1
  have hwf1 : ∀ r ∈ R1, wfN r.n r.k := fun r hr => HWF.out r (by rw [← hR1] at hr; exact outR_sub r hr)
  have hno1 : ∀ r ∈ R1, ¬ r.is n k := fun r hr => by rw [← hR1] at hr; exact outR_hno r hr
  have hsub1 : ∀ r ∈ R1, r ∈ R := fun r hr => by rw [← hR1] at hr; exact outR_sub r hr
  have hlen1 : (R1.length : Int) ≤ most := by
    rw [← hR1]
    have h1 := outR_len (R := R) (n := n) (k := k)
    have h2 := HL.out
    omega
  have HWF1 := hid hwf1
  have HNO1 := hid hno1
  have HSUB1 := hid hsub1
  have HLEN1 := hid hlen1
  have O1 : Hid (OwnG isT w1 0 9 1 A x.data.length c (tvs x.data)) := hid (s1.ownG (HO.out.ext XA.out) (fun j hj e => HAA.out j hj e))
  have KEEP : Hid (∀ W, Ext w1 W → W.cell? ⟨g, 3, none⟩ = some (.map (some mb)) ∧ W.cell? ⟨g, 2, none⟩ = some (.pointer (some ⟨og, 0, none⟩)) ∧ W.cell? ⟨gk, 0, none⟩ = some (.string (str n)) ∧ W.cell? ⟨gk, 1, none⟩ = some (.int .i64 k)) := hid (fun W x => ⟨(H1.out.ext x).1.cell 3, (H1.out.ext x).1.cell 2, (B1.out.ext x).cell 0, (B1.out.ext x).cell 1⟩)
  clear h1 s1 hR1 hgkw hwf1 hno1 hsub1 hlen1 k0 k1
  go_wp2_with fail
  refine wp_region_noPanic ?_
  refine region_E (S := fun W => W.cell? ⟨g, 3, none⟩ = some (.map (some mb)) ∧ W.cell? ⟨g, 2, none⟩ = some (.pointer (some ⟨og, 0, none⟩)) ∧ W.cell? ⟨gk, 0, none⟩ = some (.string (str n)) ∧ W.cell? ⟨gk, 1, none⟩ = some (.int .i64 k)) 14 (by kernel_rfl) (by kernel_rfl) (by kernel_rfl) ?_
  refine EG_take 0 (v := ?v1) (by simp only [lga, lgb, lgc]; rfl) (by kernel_rfl) (by kernel_rfl) (by decide) (fun _ _ _ h => h) (Or.inl ⟨by rfl, ?hy1⟩) (KEEP.out _ (ext_drew _)) ?rest1
  case hy1 => intro W hSW; (try dsimp only at hSW); obtain ⟨e3, e2, e5, e6⟩ := hSW; go_simp <;> with_reducible rfl
  try simp only [Act.put, lsa, lsb, lsc]
  refine EG_take 1 (v := ?v2) (by simp only [lga, lgb, lgc]; rfl) (by kernel_rfl) (by kernel_rfl) (by decide) (fun _ _ _ h => h) (Or.inl ⟨by rfl, ?hy2⟩) (KEEP.out _ (ext_drew _)) ?rest2
  case hy2 => intro W hSW; (try dsimp only at hSW); obtain ⟨e3, e2, e5, e6⟩ := hSW; go_simp <;> with_reducible rfl
  try simp only [Act.put, lsa, lsb, lsc]
  refine EG_take 2 (v := ?v3) (by simp only [lga, lgb, lgc]; rfl) (by kernel_rfl) (by kernel_rfl) (by decide) (fun _ _ _ h => h) (Or.inl ⟨by rfl, ?hy3⟩) (KEEP.out _ (ext_drew _)) ?rest3
  case hy3 => intro W hSW; (try dsimp only at hSW); obtain ⟨e3, e2, e5, e6⟩ := hSW; go_simp <;> with_reducible rfl
  try simp only [Act.put, lsa, lsb, lsc]
  refine EG_take 3 (v := ?v4) (by simp only [lga, lgb, lgc]; rfl) (by kernel_rfl) (by kernel_rfl) (by decide) (fun _ _ _ h => h) (Or.inl ⟨by rfl, ?hy4⟩) (KEEP.out _ (ext_drew _)) ?rest4
  case hy4 => intro W hSW; (try dsimp only at hSW); obtain ⟨e3, e2, e5, e6⟩ := hSW; go_simp <;> with_reducible rfl
  try simp only [Act.put, lsa, lsb, lsc]
  refine EG_take 4 (v := ?v5) (by simp only [lga, lgb, lgc]; rfl) (by kernel_rfl) (by kernel_rfl) (by decide) (fun _ _ _ h => h) (Or.inl ⟨by rfl, ?hy5⟩) (KEEP.out _ (ext_drew _)) ?rest5
  case hy5 => intro W hSW; (try dsimp only at hSW); obtain ⟨e3, e2, e5, e6⟩ := hSW; go_simp <;> with_reducible rfl
  try simp only [Act.put, lsa, lsb, lsc]
  refine EG_take 5 (v := ?v6) (by simp only [lga, lgb, lgc]; rfl) (by kernel_rfl) (by kernel_rfl) (by decide) (fun _ _ _ h => h) (Or.inl ⟨by rfl, ?hy6⟩) (KEEP.out _ (ext_drew _)) ?rest6
  case hy6 => intro W hSW; (try dsimp only at hSW); obtain ⟨e3, e2, e5, e6⟩ := hSW; go_simp <;> with_reducible rfl
  try simp only [Act.put, lsa, lsb, lsc]
  refine EG_take 6 (v := ?v7) (by simp only [lga, lgb, lgc]; rfl) (by kernel_rfl) (by kernel_rfl) (by decide) (fun _ _ _ h => h) (Or.inl ⟨by rfl, ?hy7⟩) (KEEP.out _ (ext_drew _)) ?rest7
  case hy7 => intro W hSW; (try dsimp only at hSW); obtain ⟨e3, e2, e5, e6⟩ := hSW; go_simp <;> with_reducible rfl
  try simp only [Act.put, lsa, lsb, lsc]
  refine EG_take 7 (v := ?v8) (by simp only [lga, lgb, lgc]; rfl) (by kernel_rfl) (by kernel_rfl) (by decide) (fun _ _ _ h => h) (Or.inl ⟨by rfl, ?hy8⟩) (KEEP.out _ (ext_drew _)) ?rest8
  case hy8 => intro W hSW; (try dsimp only at hSW); obtain ⟨e3, e2, e5, e6⟩ := hSW; go_simp <;> with_reducible rfl
  try simp only [Act.put, lsa, lsb, lsc]
  refine EG_take 8 (v := ?v9) (by simp only [lga, lgb, lgc]; rfl) (by kernel_rfl) (by kernel_rfl) (by decide) (fun _ _ _ h => h) (Or.inl ⟨by rfl, ?hy9⟩) (KEEP.out _ (ext_drew _)) ?rest9
  case hy9 => intro W hSW; (try dsimp only at hSW); obtain ⟨e3, e2, e5, e6⟩ := hSW; go_simp <;> with_reducible rfl
  try simp only [Act.put, lsa, lsb, lsc]
  refine EG_take 9 (v := ?v10) (by simp only [lga, lgb, lgc]; rfl) (by kernel_rfl) (by kernel_rfl) (by decide) (fun _ _ _ h => h) (Or.inl ⟨by rfl, ?hy10⟩) (KEEP.out _ (ext_drew _)) ?rest10
  case hy10 => intro W hSW; (try dsimp only at hSW); obtain ⟨e3, e2, e5, e6⟩ := hSW; go_simp <;> with_reducible rfl
  try simp only [Act.put, lsa, lsb, lsc]
  refine EG_take 10 (v := ?v11) (by simp only [lga, lgb, lgc]; rfl) (by kernel_rfl) (by kernel_rfl) (by decide) (fun _ _ _ h => h) (Or.inl ⟨by rfl, ?hy11⟩) (KEEP.out _ (ext_drew _)) ?rest11
  case hy11 => intro W hSW; (try dsimp only at hSW); obtain ⟨e3, e2, e5, e6⟩ := hSW; go_simp <;> with_reducible rfl
  try simp only [Act.put, lsa, lsb, lsc]
  refine EG_take 11 (v := ?v12) (by simp only [lga, lgb, lgc]; rfl) (by kernel_rfl) (by kernel_rfl) (by decide) (fun _ _ _ h => h) (Or.inl ⟨by rfl, ?hy12⟩) (KEEP.out _ (ext_drew _)) ?rest12
  case hy12 => intro W hSW; (try dsimp only at hSW); obtain ⟨e3, e2, e5, e6⟩ := hSW; go_simp <;> with_reducible rfl
  try simp only [Act.put, lsa, lsb, lsc]
  refine EG_take 12 (v := ?v13) (by simp only [lga, lgb, lgc]; rfl) (by kernel_rfl) (by kernel_rfl) (by decide) (fun _ _ _ h => h) (Or.inl ⟨by rfl, ?hy13⟩) (KEEP.out _ (ext_drew _)) ?rest13
  case hy13 => intro W hSW; (try dsimp only at hSW); obtain ⟨e3, e2, e5, e6⟩ := hSW; go_simp <;> with_reducible rfl
  try simp only [Act.put, lsa, lsb, lsc]
  refine EG_one 13 (by kernel_rfl) (by simp only [lga, lgb, lgc]; rfl) (by decide) ?_
  intro K hK0
  have hK := hid hK0
  clear hK0
  have CP := chain_push (H1.out.ext (ext_drew w1)).2.1 95 (.agg #[.string (str n), .int .i64 k, .iface tt tv]) (by rw [List.length_map]; have := HLEN1.out; omega)
  simp only [pt] at CP
  go_simp
  refine CP.mono ?_
  rintro e w5 ⟨b, rfl, hb, rg5, s5⟩
  clear CP
  have hbw : w.heap.size ≤ b := by
    have h1 := XA.out.size
    simp at hb
    omega
  obtain ⟨r0, hr0⟩ : ∃ r0 : Row, (⟨n, k, x, b, A, c⟩ : Row) = r0 := ⟨_, rfl⟩
  have he0 : (b, Value.iface 95 (.agg #[.string (str n), .int .i64 k, .iface tt tv])) = eltC r0 := by
    rw [← hr0]
    unfold eltC entV
    simp only
    rw [HTV.out]
  rw [he0] at rg5
  have hnw : ∀ j, wrC g og mb R1 j → j < w.heap.size := fun j hj => H.out.lt (hj.sub HSUB1.out).to
  have hel1 : ∀ j, (j = og ∨ j ∈ (R1.map eltC).map Prod.fst) → wrC g og mb R1 j := fun j hj => by
    rcases hj with hj | hj
    · exact .inr (.inl hj)
    · obtain ⟨y, hy, rfl⟩ := List.mem_map.1 hj
      exact .inr (.inr (.inr (mem_elt hy)))
  have gkn : gk ≠ og ∧ gk ∉ (R1.map eltC).map Prod.fst := by
    have h1 := HGK.out
    refine ⟨fun e => ?_, fun e => ?_⟩
    · have := hnw og (.inr (.inl rfl))
      omega
    · have := hnw gk (hel1 gk (.inr e))
      omega
  obtain ⟨n1, n2, n3, n4, n5⟩ := H1.out.ne
  have B5 := hid ((B1.out.drew).shy s5 (fun e => by rcases e with e | e; exact gkn.1 e; exact gkn.2 e))
  have G5 := hid ((H1.out.1.drew).shy s5 (fun e => by
    rcases e with e | e
    · exact n1 e
    · obtain ⟨y, hy, e2⟩ := List.mem_map.1 e
      obtain ⟨q, hq, e3⟩ := mem_elt hy
      exact (n4 q hq).1 (e3.trans e2)))
  have M5 : Hid (MapF Try.prog w5 77 mb (tabC R1) R1.length) := hid (shy_mapF s5 (H1.out.ext (ext_drew w1)).2.2.1 (fun e => by
    rcases e with e | e
    · exact n3 e.symm
    · obtain ⟨y, hy, e2⟩ := List.mem_map.1 e
      obtain ⟨q, hq, e3⟩ := mem_elt hy
      exact (n4 q hq).2.2 (e3.trans e2)))
  have KE5 : Hid (w5.cell? ⟨g, 3, none⟩ = some (.map (some mb)) ∧ w5.cell? ⟨g, 2, none⟩ = some (.pointer (some ⟨og, 0, none⟩)) ∧ w5.cell? ⟨gk, 0, none⟩ = some (.string (str n)) ∧ w5.cell? ⟨gk, 1, none⟩ = some (.int .i64 k)) := hid ⟨G5.out.cell 3, G5.out.cell 2, B5.out.cell 0, B5.out.cell 1⟩
  have RG5 := hid rg5
  have S5 := hid s5
  have HR0 := hid hr0
  have HBW := hid hbw
  have HB := hid hb
  clear hb rg5 s5 hr0 he0 hbw hnw hel1 gkn n1 n2 n3 n4 n5
  go_simp
  refine hK.out _ _ (KE5.out) ?_
  clear hK K
  try simp only [Act.put, lsa, lsb, lsc]
  refine EG_end (by kernel_rfl) (by simp only [lga, lgb, lgc]; rfl) ?_
  intro K hK0
  have hK := hid hK0
  clear hK0
  have hno : (tabC R1 (kl (str n) k)).isSome = false := by rw [tabC_no HWF1.out HK.out HNO1.out]; rfl
  obtain ⟨w6, hrun, m6, t6⟩ := M5.out.store (t := 62) keyed Try.underlying62 (by have h1 := HLEN1.out; unfold maxLen; omega) (kl_key HK.out.key) (.pointer (some ⟨b, 0, none⟩))
  have hrun : (Instr.mapUpdate 62 (.map (some mb)) (.agg #[.string (str n), .int .i64 k]) (.pointer (some ⟨b, 0, none⟩))).run Try.prog w5 = .ok () w6 := by simpa [kv] using hrun
  rw [if_neg (by rw [hno]; simp)] at m6
  have s6 : Shy (fun k => k = mb) w5 w6 := (shy_of_grown t6.grown).mono (fun k _ e => by injection e with e; exact e.symm)
  have hr : wfN r0.n r0.k := by rw [← HR0.out]; exact HK.out
  have push := CacM.push (r := r0) (w := w1.drew) (H1.out.ext (ext_drew w1)) HWF1.out hr (by rw [← HR0.out]; exact HNO1.out) (by rw [← HR0.out]; exact HB.out) (by rw [← HR0.out]; exact O1.out.ext (ext_drew w1)) RG5.out S5.out (by rw [← HR0.out]; exact m6) s6 (by rw [← HR0.out]; exact fun j hj e => HAA.out j hj (e.sub HSUB1.out))
  have PUSH := hid push
  clear m6 t6 s6 hr push hno
  go_simp
  refine hK.out _ _ ?_
  clear hK K hrun
  refine NoPanic.normal ?_
  obtain ⟨R2, hR2⟩ : ∃ R2, R1 ++ [r0] = R2 := ⟨_, rfl⟩
  have push := PUSH.out
  rw [hR2] at push
  obtain ⟨n2, hn2⟩ : ∃ n2, R2.length = n2 := ⟨_, rfl⟩
  have H6 := hid push.1
  have hs6 := push.2
  have S6 : Hid (Shy (wrC g og mb R) w w6) := hid ((Shy.of_ext XA.out).trans (S1.out.trans ((Shy.of_ext (ext_drew w1)).trans hs6 (fun k _ e => e)) (fun k _ e => e.sub HSUB1.out)) (fun k _ e => e))
  have KP6 : Hid (∀ W, Ext w6 W → W.cell? ⟨g, 3, none⟩ = some (.map (some mb)) ∧ W.cell? ⟨g, 0, none⟩ = some (.int .i64 most) ∧ (Builtin.len_ #[62] 3 #[.map (some mb)]).run Try.prog W = .ok (.int .i64 (n2 : Nat)) W) := hid (fun W x => ⟨(H6.out.ext x).1.cell 3, (H6.out.ext x).1.cell 0, by rw [← hn2]; exact (H6.out.ext x).lenRun _⟩)
  have hwf2 : ∀ r ∈ R2, wfN r.n r.k := fun r hr => by
    rw [← hR2, List.mem_append, List.mem_singleton] at hr
    rcases hr with hr | rfl
    · exact HWF1.out r hr
    · rw [← HR0.out]; exact HK.out
  have hd2 : DiffR R2 := by
    unfold DiffR
    rw [← hR2, List.pairwise_append]
    refine ⟨by rw [← HR1.out]; exact outR_diff HD.out, List.pairwise_singleton _ _, fun a ha b' hb' => ?_⟩
    rw [List.mem_singleton] at hb'
    subst hb'
    rw [← HR0.out]
    exact HNO1.out a ha
  have hput : putR most R ⟨n, k, x, b, A, c⟩ = if most < (n2 : Int) then R2.tail else R2 := by
    unfold putR
    rw [HR1.out, HR0.out, hR2, hn2]
  have HPUT := hid hput
  have HWF2 := hid hwf2
  have HD2 := hid hd2
  have HN2 := hid hn2
  have HR2 := hid hR2
  clear push hs6 hwf2 hd2 hput hn2 hR2
  go_wp2_with fail
  go_region_held3 (fun W => W.cell? ⟨g, 3, none⟩ = some (.map (some mb)) ∧ W.cell? ⟨g, 0, none⟩ = some (.int .i64 most) ∧ (Builtin.len_ #[62] 3 #[.map (some mb)]).run Try.prog W = .ok (.int .i64 (n2 : Nat)) W) (first | exact KP6.out _ (ext_refl _) | exact KP6.out _ (ext_drew _) | go_keep) ((fail))
  by_cases hgt : most < (n2 : Int)
  · obtain ⟨r1, rest, hr1⟩ : ∃ r1 rest, R2 = r1 :: rest := by
      cases hq : R2 with
      | nil => have h1 := HR2.out; rw [hq] at h1; simp at h1
      | cons a l => exact ⟨a, l, rfl⟩
    have H7 := H6.out.ext (ext_drew w6)
    have CF := chain_front H7.2.1
    have CO := of_in H7 (r := r1) (by rw [hr1]; simp)
    rw [hr1] at CF
    simp only [List.map_cons, frontV, eltC, pt] at CF
    simp only [pt] at CO
    have CF := hid CF
    have CO := hid CO
    have c2 : w6.drew.cell? ⟨g, 2, none⟩ = some (.pointer (some ⟨og, 0, none⟩)) := H7.1.cell 2
    have H7 := hid H7
    obtain ⟨tt1, tv1, htv1⟩ := thV_if r1.x r1.A r1.c
    rw [htv1] at CO
    have HR1' := hid hr1
    clear hr1 htv1
    go_wp2_with fail
    refine CF.out.mono ?_
    rintro e _ ⟨rfl, rfl⟩
    go_wp2_with fail
    refine CO.out.mono ?_
    rintro e w8 ⟨rfl, x8⟩
    have C9 := out_any (H7.out.ext x8) HWF2.out HD2.out (n := r1.n) (k := r1.k) (HWF2.out r1 (by rw [HR1'.out]; simp))
    simp only [pt] at C9
    have C9 := hid C9
    have hfk := field_key (str r1.n) r1.k tt1 tv1 w8
    have X8 := hid x8
    clear x8
    go_wp2_with fail
    refine C9.out.mono ?_
    rintro e w9 ⟨rfl, h9, s9⟩
    have ht : outR R2 r1.n r1.k = R2.tail := by
      have h1 := HD2.out
      rw [HR1'.out] at h1 ⊢
      have := outR_yes (P1 := []) (r := r1) (P2 := rest) h1
      simpa using this
    rw [ht] at h9
    have H9 := hid h9
    have S9 := hid s9
    clear h9 s9 ht
    go_wp2_with fail
    go_end0
    refine ⟨b, rfl, HBW.out, ?_, ?_⟩
    · rw [HPUT.out, if_pos hgt]
      exact H9.out
    · refine S6.out.trans ((Shy.of_ext (ext_trans (ext_drew _) X8.out)).trans S9.out (fun k _ e => e)) (fun j hj e => ?_)
      rcases e with e | e | e | ⟨q, hq, e⟩
      · exact .inl e
      · exact .inr (.inl e)
      · exact .inr (.inr (.inl e))
      · rw [← HR2.out, List.mem_append, List.mem_singleton] at hq
        rcases hq with hq | rfl
        · exact .inr (.inr (.inr ⟨q, HSUB1.out q hq, e⟩))
        · rw [← HR0.out] at e
          have e2 : b = j := e
          have := HBW.out
          omega
  · go_wp2_with fail
    go_end0
    refine ⟨b, rfl, HBW.out, ?_, S6.out.ext (ext_drew _)⟩
    rw [HPUT.out, if_neg (by omega)]
    exact H6.out.ext (ext_drew _)
end
end Go.Proofs.Ytcddfenhkljpeaa

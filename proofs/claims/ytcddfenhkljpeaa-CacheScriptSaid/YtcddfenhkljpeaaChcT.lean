import Derived.Test.YtcddfenhkljpeaaChcR
/- Layer 23: Has; PutNone and Has on entries. (Printed by gen_chct.py.) -/
namespace Go.Proofs.Ytcddfenhkljpeaa
open Go.BK Go.BK.CH Go.BK.NM Go.RowKit Go.Maps
set_option linter.unusedVariables false
set_option linter.unusedSimpArgs false
section
variable {w w' w5 w6 : World} {g og mb : Nat} {most now : Int} {R P1 P2 : List Row} {r : Row}
set_option maxHeartbeats 4000000 in
set_option maxRecDepth 100000 in
theorem has_any (h : CacM w g og mb most now R) {n : List UInt8} {kind : Int} (hn : n.length ≤ 2000000) {X : Value} {b : Bool}
    (hX : ∀ W, Ext w W → (Instr.lookup 62 (.map (some mb)) (.agg #[.string (str (lower n)), .int .i64 kind]) true).run Try.prog W = .ok (.tuple #[X, .bool b]) W) :
    Calls Try.prog 19 #[pt g, .string (str n), .int .i64 kind] w fun e w' => e = .returned (.bool b) ∧ Ext w w' := by
  have CAB := absent_no h
  have CLO := fun W => lower_in n W hn
  obtain ⟨low, hlow⟩ : ∃ low, lower n = low := ⟨_, rfl⟩
  rw [hlow] at CLO hX
  have KEEP : Hid (∀ W, Ext w W → W.cell? ⟨g, 3, none⟩ = some (.map (some mb)) ∧ (Instr.lookup 62 (.map (some mb)) (.agg #[.string (str low), .int .i64 kind]) true).run Try.prog W = .ok (.tuple #[X, .bool b]) W) := hid (fun W x => ⟨(h.ext x).1.cell 3, hX W x⟩)
  have CAB := hid CAB
  have CLO := hid CLO
  simp only [pt]
  clear h hX hlow
  go_enter Try.func19, Try.ntmps19
  go_wp2_with fail
  refine CAB.out.mono ?_
  rintro e _ ⟨rfl, rfl⟩
  go_wp2_with fail
  refine wp_region_noPanic ?_
  refine region_E (S := fun W => W.cell? ⟨g, 3, none⟩ = some (.map (some mb)) ∧ (Instr.lookup 62 (.map (some mb)) (.agg #[.string (str low), .int .i64 kind]) true).run Try.prog W = .ok (.tuple #[X, .bool b]) W) 13 (by kernel_rfl) (by kernel_rfl) (by kernel_rfl) ?_
  refine EG_take 0 (v := ?v1) (by simp only [lga, lgb, lgc]; rfl) (by kernel_rfl) (by kernel_rfl) (by decide) (fun _ _ _ h => h) (Or.inl ⟨by rfl, ?hy1⟩) (KEEP.out _ (ext_drew _)) ?rest1
  case hy1 => intro W hSW; (try dsimp only at hSW); obtain ⟨e0, e1⟩ := hSW; go_simp <;> with_reducible rfl
  try simp only [Act.put, lsa, lsb, lsc]
  refine EG_take 1 (v := ?v2) (by simp only [lga, lgb, lgc]; rfl) (by kernel_rfl) (by kernel_rfl) (by decide) (fun _ _ _ h => h) (Or.inl ⟨by rfl, ?hy2⟩) (KEEP.out _ (ext_drew _)) ?rest2
  case hy2 => intro W hSW; (try dsimp only at hSW); obtain ⟨e0, e1⟩ := hSW; go_simp <;> with_reducible rfl
  try simp only [Act.put, lsa, lsb, lsc]
  refine EG_take 2 (v := ?v3) (by simp only [lga, lgb, lgc]; rfl) (by kernel_rfl) (by kernel_rfl) (by decide) (fun _ _ _ h => h) (Or.inl ⟨by rfl, ?hy3⟩) (KEEP.out _ (ext_drew _)) ?rest3
  case hy3 => intro W hSW; (try dsimp only at hSW); obtain ⟨e0, e1⟩ := hSW; go_simp <;> with_reducible rfl
  try simp only [Act.put, lsa, lsb, lsc]
  refine EG_take 3 (v := ?v4) (by simp only [lga, lgb, lgc]; rfl) (by kernel_rfl) (by kernel_rfl) (by decide) (fun _ _ _ h => h) (Or.inl ⟨by rfl, ?hy4⟩) (KEEP.out _ (ext_drew _)) ?rest4
  case hy4 => intro W hSW; (try dsimp only at hSW); obtain ⟨e0, e1⟩ := hSW; go_simp <;> with_reducible rfl
  try simp only [Act.put, lsa, lsb, lsc]
  refine EG_take 4 (v := ?v5) (by simp only [lga, lgb, lgc]; rfl) (by kernel_rfl) (by kernel_rfl) (by decide) (fun _ _ _ h => h) (Or.inl ⟨by rfl, ?hy5⟩) (KEEP.out _ (ext_drew _)) ?rest5
  case hy5 => intro W hSW; (try dsimp only at hSW); obtain ⟨e0, e1⟩ := hSW; go_simp <;> with_reducible rfl
  try simp only [Act.put, lsa, lsb, lsc]
  refine EG_take 6 (v := ?v6) (by simp only [lga, lgb, lgc]; rfl) (by kernel_rfl) (by kernel_rfl) (by decide) (fun _ _ _ h => h) (Or.inl ⟨by rfl, ?hy6⟩) (KEEP.out _ (ext_drew _)) ?rest6
  case hy6 => intro W hSW; (try dsimp only at hSW); obtain ⟨e0, e1⟩ := hSW; go_simp <;> with_reducible rfl
  try simp only [Act.put, lsa, lsb, lsc]
  refine EG_one 5 (by kernel_rfl) (by simp only [lga, lgb, lgc]; rfl) (by decide) ?_
  intro K hK0
  have hK := hid hK0
  clear hK0
  go_simp
  refine (CLO.out _).mono ?_
  rintro e w4 ⟨rfl, x4⟩
  have X4 : Hid (Ext w w4) := hid (ext_trans (ext_drew _) x4)
  clear x4
  go_simp
  refine hK.out _ _ (KEEP.out _ X4.out) ?_
  clear hK K
  try simp only [Act.put, lsa, lsb, lsc]
  refine EG_take 7 (v := ?v7) (by simp only [lga, lgb, lgc]; rfl) (by kernel_rfl) (by kernel_rfl) (by decide) (fun _ _ _ h => h) (Or.inl ⟨by rfl, ?hy7⟩) (KEEP.out _ X4.out) ?rest7
  case hy7 => intro W hSW; (try dsimp only at hSW); obtain ⟨e0, e1⟩ := hSW; go_simp <;> with_reducible rfl
  try simp only [Act.put, lsa, lsb, lsc]
  refine EG_take 8 (v := ?v8) (by simp only [lga, lgb, lgc]; rfl) (by kernel_rfl) (by kernel_rfl) (by decide) (fun _ _ _ h => h) (Or.inl ⟨by rfl, ?hy8⟩) (KEEP.out _ X4.out) ?rest8
  case hy8 => intro W hSW; (try dsimp only at hSW); obtain ⟨e0, e1⟩ := hSW; go_simp <;> with_reducible rfl
  try simp only [Act.put, lsa, lsb, lsc]
  refine EG_take 9 (v := ?v9) (by simp only [lga, lgb, lgc]; rfl) (by kernel_rfl) (by kernel_rfl) (by decide) (fun _ _ _ h => h) (Or.inl ⟨by rfl, ?hy9⟩) (KEEP.out _ X4.out) ?rest9
  case hy9 => intro W hSW; (try dsimp only at hSW); obtain ⟨e0, e1⟩ := hSW; go_simp <;> with_reducible rfl
  try simp only [Act.put, lsa, lsb, lsc]
  refine EG_take 10 (v := ?v10) (by simp only [lga, lgb, lgc]; rfl) (by kernel_rfl) (by kernel_rfl) (by decide) (fun _ _ _ h => h) (Or.inl ⟨by rfl, ?hy10⟩) (KEEP.out _ X4.out) ?rest10
  case hy10 => intro W hSW; (try dsimp only at hSW); obtain ⟨e0, e1⟩ := hSW; go_simp <;> with_reducible rfl
  try simp only [Act.put, lsa, lsb, lsc]
  refine EG_take 11 (v := ?v11) (by simp only [lga, lgb, lgc]; rfl) (by kernel_rfl) (by kernel_rfl) (by decide) (fun _ _ _ h => h) (Or.inl ⟨by rfl, ?hy11⟩) (KEEP.out _ X4.out) ?rest11
  case hy11 => intro W hSW; (try dsimp only at hSW); obtain ⟨e0, e1⟩ := hSW; go_simp <;> with_reducible rfl
  try simp only [Act.put, lsa, lsb, lsc]
  refine EG_take 12 (v := ?v12) (by simp only [lga, lgb, lgc]; rfl) (by kernel_rfl) (by kernel_rfl) (by decide) (fun _ _ _ h => h) (Or.inl ⟨by rfl, ?hy12⟩) (KEEP.out _ X4.out) ?rest12
  case hy12 => intro W hSW; (try dsimp only at hSW); obtain ⟨e0, e1⟩ := hSW; go_simp <;> with_reducible rfl
  try simp only [Act.put, lsa, lsb, lsc]
  refine EG_end (by kernel_rfl) (by simp only [lga, lgb, lgc]; rfl) ?_
  intro K hK0
  have hK := hid hK0
  clear hK0
  go_simp
  refine hK.out _ _ ?_
  clear hK K
  refine NoPanic.normal ?_
  go_wp2_with fail
  go_ret
  exact ⟨rfl, X4.out⟩
end
def goneE (L : List Ent) (low : List UInt8) : List Ent := L.filter (fun e => !decide (e.n = low))
theorem gone_ent (R : List Row) (low : List UInt8) : (goneR R low).map Row.ent = goneE (R.map Row.ent) low := by
  unfold goneR goneE
  rw [List.filter_map]
  rfl
def noneE (low : List UInt8) (kind e : Int) : Ent := ⟨low, kind, .none e⟩
def putNoneS (most : Int) (s : StC) (n : List UInt8) (kind ttl at_ : Int) : StC :=
  ⟨tmax s.now at_, putE most (if kind = 0 then goneE s.L (lower n) else s.L) (noneE (lower n) kind (tmax s.now at_ + ttl))⟩
def hasS (s : StC) (n : List UInt8) (kind : Int) : Bool := (findE s.L (lower n) kind).isSome
section
variable {U V : Nat → Prop} {w w' : World} {g : Nat} {most : Int} {s : StC}
theorem noneE_ok {n : List UInt8} {kind ttl t : Int} (hn : n.length ≤ 2000000) (hki : 0 ≤ kind ∧ kind ≤ 65535) (htt : 0 < ttl ∧ ttl < 2147483648) (ht : 0 ≤ t ∧ t ≤ 1099511627776) : EntOk (noneE (lower n) kind (t + ttl)) := by
  refine ⟨⟨by show -9223372036854775808 ≤ kind ∧ kind ≤ 9223372036854775807; omega, by show (lower n).length ≤ 2000000; rw [lower_len]; exact hn⟩, by show 0 ≤ t + ttl ∧ t + ttl ≤ 2199023255552; omega, ?_⟩
  intro s rk e h
  have h : Th.none (t + ttl) = .known s rk e := h
  cases h
theorem putNoneS_ok (h : StOk most s) {n : List UInt8} {kind ttl at_ : Int} (hn : n.length ≤ 2000000) (hki : 0 ≤ kind ∧ kind ≤ 65535) (htt : 0 < ttl ∧ ttl < 2147483648) (hat : inTime at_) : StOk most (putNoneS most s n kind ttl at_) := by
  have ht := tmax_range h.2.1 hat
  unfold putNoneS
  split
  · exact h.put ht (fun e he => (List.mem_filter.1 he).1) (List.length_filter_le _ _) (List.Pairwise.filter _ h.2.2.2.2) (noneE_ok hn hki htt ht)
  · exact h.put ht (fun e h => h) (Nat.le_refl _) h.2.2.2.2 (noneE_ok hn hki htt ht)
set_option maxHeartbeats 2000000 in
theorem c_putnone (h : Qc U w g most s) {n : List UInt8} {kind ttl at_ : Int} (hn : n.length ≤ 2000000) (hc : checkS n = 0) (hat : inTime at_) (hki : 0 ≤ kind ∧ kind ≤ 65535) (htt : 0 < ttl ∧ ttl < 2147483648) :
    Calls Try.prog 17 #[pt g, .string (str n), .int .i64 kind, .int .i64 ttl, .int .i64 at_] w fun e w' =>
      e = .returned (.tuple #[.bool true, .int .i64 0]) ∧ Qc (More U w) w' g most (putNoneS most s n kind ttl at_) ∧ Shy U w w' := by
  have hok := putNoneS_ok h.1 hn hki htt hat
  obtain ⟨now, L⟩ := s
  obtain ⟨h1, og, mb, R, h2, h3, h4⟩ := h
  simp only at h2 h3
  subst h3
  have hO := ok_rows h1
  have hB : CacB w g og mb most now R := ⟨h2, hO⟩
  have hU : ∀ k, k < w.heap.size → wrC g og mb R k → U k := fun k _ e => h4 k e.to
  have yes : ∀ (R1 : List Row) (e : Ending) (w' : World), (∀ q ∈ R1, q ∈ R) → StOk most ⟨tmax now at_, putE most (R1.map Row.ent) (noneE (lower n) kind (tmax now at_ + ttl))⟩ → PutND w w' g og mb most (tmax now at_) R R1 (lower n) kind ttl e →
      e = .returned (.tuple #[.bool true, .int .i64 0]) ∧ Qc (More U w) w' g most ⟨tmax now at_, putE most (R1.map Row.ent) (noneE (lower n) kind (tmax now at_ + ttl))⟩ ∧ Shy U w w' := by
    rintro R1 e w' hsub hok ⟨b, rfl, hb, hm, hs⟩
    refine ⟨rfl, ⟨hok, og, mb, _, hm, ?_, put_owns (w := w) h4 hsub hb (fun k hk => by simp [blk] at hk)⟩, hs.mono hU⟩
    rw [put_ent]
    rfl
  by_cases hk0 : kind = 0
  · have eg : putNoneS most ⟨now, R.map Row.ent⟩ n kind ttl at_ = ⟨tmax now at_, putE most ((goneR R (lower n)).map Row.ent) (noneE (lower n) kind (tmax now at_ + ttl))⟩ := by
      simp only [putNoneS, if_pos hk0, gone_ent]
    rw [eg] at hok ⊢
    exact (putnone_name hB hn hc hat hki htt hk0).mono fun e w' hp => yes _ e w' goneR_sub hok hp
  · have eg : putNoneS most ⟨now, R.map Row.ent⟩ n kind ttl at_ = ⟨tmax now at_, putE most (R.map Row.ent) (noneE (lower n) kind (tmax now at_ + ttl))⟩ := by
      simp only [putNoneS, if_neg hk0]
    rw [eg] at hok ⊢
    exact (putnone_kind hB hn hc hat hki htt hk0).mono fun e w' hp => yes R e w' (fun q h => h) hok hp
theorem c_has (h : Qc U w g most s) {n : List UInt8} {kind : Int} (hn : n.length ≤ 2000000) (hki : -9223372036854775808 ≤ kind ∧ kind ≤ 9223372036854775807) :
    Calls Try.prog 19 #[pt g, .string (str n), .int .i64 kind] w fun e w' => e = .returned (.bool (hasS s n kind)) ∧ Ext w w' := by
  obtain ⟨now, L⟩ := s
  obtain ⟨h1, og, mb, R, h2, h3, h4⟩ := h
  simp only at h2 h3
  subst h3
  have hO := ok_rows h1
  have hwf : ∀ r ∈ R, wfN r.n r.k := fun r hr => (hO.2.2.2.2.2.1 r hr).1
  have hd := hO.2.2.2.2.2.2
  have hk : wfN (lower n) kind := ⟨hki, by rw [lower_len]; exact hn⟩
  rcases outR_split (R := R) (n := lower n) (k := kind) with hno | ⟨P1, r, P2, hR, hrn, hrk⟩
  · have e1 : hasS ⟨now, R.map Row.ent⟩ n kind = false := by unfold hasS; simp only; rw [find_none_ent hno]; rfl
    rw [e1]
    refine has_any h2 hn (X := .pointer none) fun W x => ?_
    have hl := (h2.ext x).look hk
    rw [tabC_no hwf hk hno] at hl
    simpa using hl
  · have e1 : hasS ⟨now, R.map Row.ent⟩ n kind = true := by
      unfold hasS
      simp only
      rw [hR] at hd ⊢
      rw [← hrn, ← hrk, find_some_ent hd]
      rfl
    rw [e1]
    refine has_any h2 hn (X := pt r.b) fun W x => ?_
    have hl := (h2.ext x).look hk
    rw [hR] at hd hwf hl
    rw [← hrn, ← hrk, tabC_at hwf hd] at hl
    rw [← hrn, ← hrk]
    simpa using hl
end
end Go.Proofs.Ytcddfenhkljpeaa

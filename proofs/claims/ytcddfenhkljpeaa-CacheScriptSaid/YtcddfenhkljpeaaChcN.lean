import Derived.Test.YtcddfenhkljpeaaChcL
import Derived.Test.YtcddfenhkljpeaaChcM
/- Layer 23: what a cache keeps, as entries; what Get, PutSet make of it. -/
namespace Go.BK.CH
structure Ent where
  n : List UInt8
  k : Int
  x : Th
def Row.ent (r : Row) : Ent := ⟨r.n, r.k, r.x⟩
def Ent.is (e : Ent) (n : List UInt8) (k : Int) : Prop := e.n = n ∧ e.k = k
instance (e : Ent) (n : List UInt8) (k : Int) : Decidable (e.is n k) := by unfold Ent.is; infer_instance
structure StC where
  now : Int
  L : List Ent
structure FoundS where
  kind : Int
  s : SetS
  left : Int
deriving instance DecidableEq for SetS
deriving instance DecidableEq for FoundS
def zeroS : SetS := ⟨[], 0, 0, 0, []⟩
def outE (L : List Ent) (n : List UInt8) (k : Int) : List Ent := L.filter (fun e => !decide (e.is n k))
def findE (L : List Ent) (n : List UInt8) (k : Int) : Option Ent := L.find? (fun e => decide (e.is n k))
def liveE (L : List Ent) (t : Int) (n : List UInt8) (k : Int) : Option Ent :=
  match findE L n k with
  | some e => if e.x.till ≤ t then none else some e
  | none => none
def putE (most : Int) (L : List Ent) (e : Ent) : List Ent := if most < ((outE L e.n e.k ++ [e]).length : Int) then (outE L e.n e.k ++ [e]).tail else outE L e.n e.k ++ [e]
def backE (L : List Ent) (e : Ent) : List Ent := outE L e.n e.k ++ [e]
def DiffE (L : List Ent) : Prop := L.Pairwise (fun a b => ¬ a.is b.n b.k)
end Go.BK.CH
namespace Go.Proofs.Ytcddfenhkljpeaa
open Go.BK Go.BK.CH Go.BK.NM Go.RowKit Go.Maps
set_option linter.unusedVariables false
set_option linter.unusedSimpArgs false
def EntOk (e : Ent) : Prop := wfN e.n e.k ∧ (0 ≤ e.x.till ∧ e.x.till ≤ 2199023255552) ∧ (∀ s rk t, e.x = .known s rk t → e.k ≠ 0 ∧ 1 ≤ s.data.length ∧ s.data.length ≤ 64)
def StOk (most : Int) (s : StC) : Prop := (1 ≤ most ∧ most ≤ 4096) ∧ (0 ≤ s.now ∧ s.now ≤ 1099511627776) ∧ (s.L.length : Int) ≤ most ∧ (∀ e ∈ s.L, EntOk e) ∧ DiffE s.L
/-- What Get makes of it. -/
def get2S (L : List Ent) (t : Int) (low : List UInt8) : StC × FoundS :=
  match liveE L t low 0 with
  | some e => (⟨t, backE L e⟩, ⟨3, zeroS, e.x.till - t⟩)
  | none => (⟨t, L⟩, ⟨0, zeroS, 0⟩)
def getS (s : StC) (n : List UInt8) (kind rank at_ : Int) : StC × FoundS :=
  match liveE s.L (tmax s.now at_) (lower n) kind with
  | some ⟨a, b, .known x rk e⟩ => if rank ≤ rk then (⟨tmax s.now at_, backE s.L ⟨a, b, .known x rk e⟩⟩, ⟨1, ⟨x.nm, x.ty, x.cl, e - tmax s.now at_, x.data⟩, e - tmax s.now at_⟩) else get2S s.L (tmax s.now at_) (lower n)
  | some ⟨a, b, .none e⟩ => (⟨tmax s.now at_, backE s.L ⟨a, b, .none e⟩⟩, ⟨if kind = 0 then 3 else 2, zeroS, e - tmax s.now at_⟩)
  | none => get2S s.L (tmax s.now at_) (lower n)
/-- What PutSet makes of it, of a set that may be, of a TTL above 0. -/
def setE (x : SetS) (rank t : Int) : Ent := ⟨lower x.nm, x.ty, .known x rank (t + x.ttl)⟩
def putS (most : Int) (s : StC) (x : SetS) (rank at_ : Int) : StC × Bool :=
  if rank < 3 then
    match liveE s.L (tmax s.now at_) (lower x.nm) x.ty with
    | some ⟨_, _, .none _⟩ => (⟨tmax s.now at_, s.L⟩, false)
    | some ⟨_, _, .known _ rk _⟩ => if rk ≤ rank then (⟨tmax s.now at_, putE most s.L (setE x rank (tmax s.now at_))⟩, true) else (⟨tmax s.now at_, s.L⟩, false)
    | none => (⟨tmax s.now at_, putE most s.L (setE x rank (tmax s.now at_))⟩, true)
  else (⟨tmax s.now at_, putE most (outE s.L (lower x.nm) 0) (setE x rank (tmax s.now at_))⟩, true)
def foundV (f : FoundS) (A : Option Addr) (c : Nat) : Value :=
  .agg #[.int .i64 f.kind, .string (str f.s.nm), .int .i64 f.s.ty, .int .i64 f.s.cl, .int .i64 f.s.ttl, .slice A f.s.data.length c, .int .i64 f.left]
/-! ### rows and entries -/
theorem out_ent (R : List Row) (n : List UInt8) (k : Int) : (outR R n k).map Row.ent = outE (R.map Row.ent) n k := by
  unfold outR outE
  rw [List.filter_map]
  rfl
theorem put_ent (most : Int) (R : List Row) (r : Row) : (putR most R r).map Row.ent = putE most (R.map Row.ent) r.ent := by
  have e : (outR R r.n r.k ++ [r]).map Row.ent = outE (R.map Row.ent) r.ent.n r.ent.k ++ [r.ent] := by rw [List.map_append, out_ent]; rfl
  unfold putR putE
  rw [← e, List.length_map]
  split
  · rw [List.map_tail]
  · rfl
theorem back_ent {P1 P2 : List Row} {r : Row} (hd : DiffR (P1 ++ r :: P2)) : (backR P1 P2 r).map Row.ent = backE ((P1 ++ r :: P2).map Row.ent) r.ent := by
  unfold backR backE
  rw [List.map_append]
  congr 1
  rw [← outR_yes hd, out_ent]
  rfl
theorem diff_ent {R : List Row} (h : DiffE (R.map Row.ent)) : DiffR R := by
  unfold DiffE at h
  rw [List.pairwise_map] at h
  exact h
theorem find_none_ent {R : List Row} {n : List UInt8} {k : Int} (h : ∀ r ∈ R, ¬ r.is n k) : findE (R.map Row.ent) n k = none := by
  unfold findE
  rw [List.find?_eq_none]
  intro e he
  obtain ⟨r, hr, rfl⟩ := List.mem_map.1 he
  simp only [decide_eq_true_eq]
  exact h r hr
theorem find_some_ent {P1 P2 : List Row} {r : Row} (hd : DiffR (P1 ++ r :: P2)) : findE ((P1 ++ r :: P2).map Row.ent) r.n r.k = some r.ent := by
  unfold DiffR at hd
  rw [List.pairwise_append] at hd
  have h1 : findE (P1.map Row.ent) r.n r.k = none := find_none_ent fun s hs => hd.2.2 s hs r (by simp)
  unfold findE at h1 ⊢
  rw [List.map_append, List.find?_append, h1, List.map_cons, List.find?_cons]
  simp [Row.ent, Ent.is]
theorem live_cases {R : List Row} (hd : DiffR R) (t : Int) (n : List UInt8) (k : Int) :
    (liveE (R.map Row.ent) t n k = none ∧ LvNo R n k t) ∨ ∃ P1 r P2, R = P1 ++ r :: P2 ∧ r.n = n ∧ r.k = k ∧ t < r.x.till ∧ liveE (R.map Row.ent) t n k = some r.ent := by
  rcases outR_split (R := R) (n := n) (k := k) with hno | ⟨P1, r, P2, rfl, rfl, rfl⟩
  · left
    refine ⟨?_, .inl hno⟩
    unfold liveE
    rw [find_none_ent hno]
  · by_cases ht : r.x.till ≤ t
    · left
      refine ⟨?_, .inr ⟨P1, r, P2, rfl, rfl, rfl, ht⟩⟩
      unfold liveE
      rw [find_some_ent hd]
      simp only
      rw [if_pos (show r.ent.x.till ≤ t from ht)]
    · right
      refine ⟨P1, r, P2, rfl, rfl, rfl, by omega, ?_⟩
      unfold liveE
      rw [find_some_ent hd]
      simp only
      rw [if_neg (show ¬ r.ent.x.till ≤ t from ht)]
/-! ### what may be -/
theorem outE_sub {L : List Ent} {n : List UInt8} {k : Int} : ∀ e ∈ outE L n k, e ∈ L := fun e he => (List.mem_filter.1 he).1
theorem outE_len (L : List Ent) (n : List UInt8) (k : Int) : (outE L n k).length ≤ L.length := List.length_filter_le _ _
theorem outE_diff {L : List Ent} {n : List UInt8} {k : Int} (h : DiffE L) : DiffE (outE L n k) := List.Pairwise.filter _ h
theorem backE_diff {L : List Ent} {e : Ent} (h : DiffE L) : DiffE (backE L e) := by
  unfold backE DiffE
  rw [List.pairwise_append]
  refine ⟨outE_diff h, List.pairwise_singleton _ _, fun a ha b hb => ?_⟩
  rw [List.mem_singleton] at hb
  subst hb
  simpa using (List.mem_filter.1 ha).2
theorem backE_len {L : List Ent} {e : Ent} (he : e ∈ L) : (backE L e).length ≤ L.length := by
  have h : (outE L e.n e.k).length < L.length := by
    unfold outE
    rw [List.length_filter_lt_length_iff_exists]
    exact ⟨e, he, by simp [Ent.is]⟩
  unfold backE
  rw [List.length_append, List.length_singleton]
  omega
theorem find_mem {L : List Ent} {n : List UInt8} {k : Int} {e : Ent} (h : findE L n k = some e) : e ∈ L ∧ e.is n k := by
  unfold findE at h
  exact ⟨List.mem_of_find?_eq_some h, by simpa using List.find?_some h⟩
theorem live_mem {L : List Ent} {t : Int} {n : List UInt8} {k : Int} {e : Ent} (h : liveE L t n k = some e) : e ∈ L ∧ e.is n k ∧ t < e.x.till := by
  unfold liveE at h
  split at h
  · rename_i f hf
    split at h
    · cases h
    · rename_i ht
      injection h with h
      subst h
      exact ⟨(find_mem hf).1, (find_mem hf).2, by omega⟩
  · cases h
section
variable {most : Int} {s : StC}
theorem StOk.time (h : StOk most s) {t : Int} (ht : 0 ≤ t ∧ t ≤ 1099511627776) : StOk most ⟨t, s.L⟩ := ⟨h.1, ht, h.2.2⟩
theorem StOk.back (h : StOk most s) {t : Int} (ht : 0 ≤ t ∧ t ≤ 1099511627776) {e : Ent} (he : e ∈ s.L) : StOk most ⟨t, backE s.L e⟩ := by
  obtain ⟨h1, h2, h3, h4, h5⟩ := h
  refine ⟨h1, ht, ?_, ?_, backE_diff h5⟩
  · have := backE_len he
    simp only
    omega
  · intro a ha
    unfold backE at ha
    simp only [List.mem_append, List.mem_singleton] at ha
    rcases ha with ha | rfl
    · exact h4 a (outE_sub a ha)
    · exact h4 _ he
theorem StOk.put (h : StOk most s) {t : Int} (ht : 0 ≤ t ∧ t ≤ 1099511627776) {L : List Ent} (hL : ∀ e ∈ L, e ∈ s.L) (hl : L.length ≤ s.L.length) (hd : DiffE L) {e : Ent} (he : EntOk e) : StOk most ⟨t, putE most L e⟩ := by
  obtain ⟨h1, h2, h3, h4, h5⟩ := h
  have hlen := outE_len L e.n e.k
  have hmem : ∀ a ∈ outE L e.n e.k ++ [e], EntOk a := by
    intro a ha
    simp only [List.mem_append, List.mem_singleton] at ha
    rcases ha with ha | rfl
    · exact h4 a (hL a (outE_sub a ha))
    · exact he
  have hdd : DiffE (outE L e.n e.k ++ [e]) := backE_diff hd
  have hcnt : (outE L e.n e.k ++ [e]).length ≤ s.L.length + 1 := by
    rw [List.length_append, List.length_singleton]
    omega
  refine ⟨h1, ht, ?_, ?_, ?_⟩
  · simp only [putE]
    split
    · rw [List.length_tail]
      omega
    · omega
  · simp only [putE]
    split
    · exact fun a ha => hmem a (List.mem_of_mem_tail ha)
    · exact hmem
  · simp only [putE]
    split
    · exact List.Pairwise.sublist (List.tail_sublist _) hdd
    · exact hdd
theorem lower_len (n : List UInt8) : (lower n).length = n.length := by simp [lower]
theorem setE_ok {x : SetS} (hx : SetOk x) (hty : x.ty ≠ 0) (rank : Int) {t : Int} (ht : 0 ≤ t ∧ t ≤ 1099511627776) : EntOk (setE x rank t) := by
  obtain ⟨g1, g2, g3, g4, g5, g6, _, _⟩ := hx
  refine ⟨⟨by show -9223372036854775808 ≤ x.ty ∧ x.ty ≤ 9223372036854775807; omega, by show (lower x.nm).length ≤ 2000000; rw [lower_len]; exact g2⟩, by show 0 ≤ t + x.ttl ∧ t + x.ttl ≤ 2199023255552; omega, ?_⟩
  intro s rk e h
  have h : Th.known x rank (t + x.ttl) = .known s rk e := h
  injection h with h _ _
  subst h
  exact ⟨hty, g6⟩
theorem get2S_ok (h : StOk most s) {t : Int} (ht : 0 ≤ t ∧ t ≤ 1099511627776) (low : List UInt8) : StOk most (get2S s.L t low).1 := by
  unfold get2S
  split
  · rename_i e he
    exact h.back ht (live_mem he).1
  · exact h.time ht
theorem getS_ok (h : StOk most s) (n : List UInt8) (kind rank : Int) {at_ : Int} (hat : inTime at_) : StOk most (getS s n kind rank at_).1 := by
  have ht := tmax_range h.2.1 hat
  unfold getS
  split
  · rename_i he
    split
    · exact h.back ht (live_mem he).1
    · exact get2S_ok h ht _
  · rename_i he
    exact h.back ht (live_mem he).1
  · exact get2S_ok h ht _
theorem putS_ok (h : StOk most s) {x : SetS} (hx : SetOk x) (hty : x.ty ≠ 0) (rank : Int) {at_ : Int} (hat : inTime at_) : StOk most (putS most s x rank at_).1 := by
  have ht := tmax_range h.2.1 hat
  have hk := h.put ht (fun e h => h) (Nat.le_refl _) h.2.2.2.2 (setE_ok hx hty rank ht)
  unfold putS
  split
  · split
    · exact h.time ht
    · split
      · exact hk
      · exact h.time ht
    · exact hk
  · exact h.put ht (fun e h => outE_sub e h) (outE_len _ _ _) (outE_diff h.2.2.2.2) (setE_ok hx hty rank ht)
end
theorem ok_rows {most now : Int} {R : List Row} (h : StOk most ⟨now, R.map Row.ent⟩) : OkC most now R := by
  obtain ⟨⟨h1, h1'⟩, ⟨h2, h2'⟩, h3, h4, h5⟩ := h
  refine ⟨h1, h1', h2, h2', by simpa using h3, fun r hr => ?_, diff_ent h5⟩
  obtain ⟨a, b, c⟩ := h4 r.ent (List.mem_map_of_mem hr)
  refine ⟨a, b.1, b.2, ?_⟩
  cases hx : r.x with
  | none e => show ([] : List (List UInt8)).length ≤ 64; decide
  | known s rk e => exact (c s rk e hx).2.2
/-! ### the cache in memory -/
def More (U : Nat → Prop) (w : World) (k : Nat) : Prop := U k ∨ w.heap.size ≤ k
def Qc (U : Nat → Prop) (w : World) (g : Nat) (most : Int) (s : StC) : Prop :=
  StOk most s ∧ ∃ og mb R, CacM w g og mb most s.now R ∧ R.map Row.ent = s.L ∧ ∀ k, ownsC g og mb R k → U k
section
variable {U V : Nat → Prop} {w w' : World} {g : Nat} {most : Int} {s : StC}
theorem Qc.mono (h : Qc U w g most s) (hV : ∀ k, k < w.heap.size → U k → V k) : Qc V w g most s := by
  obtain ⟨h1, og, mb, R, h2, h3, h4⟩ := h
  exact ⟨h1, og, mb, R, h2, h3, fun k hk => hV k (h2.lt hk) (h4 k hk)⟩
theorem Qc.shy (h : Qc U w g most s) (hs : Shy V w w') (hV : ∀ k, k < w.heap.size → U k → ¬ V k) : Qc U w' g most s := by
  obtain ⟨h1, og, mb, R, h2, h3, h4⟩ := h
  exact ⟨h1, og, mb, R, h2.shy hs fun k hk => hV k (h2.lt hk) (h4 k hk), h3, h4⟩
theorem Qc.ext (h : Qc U w g most s) (hs : Ext w w') : Qc U w' g most s := h.shy (V := fun _ => False) (Shy.of_ext hs) fun _ _ _ h => h
theorem c_new (m : Int) (w : World) (h : 1 ≤ m ∧ m ≤ 4096) : Calls Try.prog 11 #[.int .i64 m] w fun e w' => ∃ g, e = .returned (.tuple #[pt g, .int .i64 0]) ∧ Qc (fun k => w.heap.size ≤ k) w' g m ⟨0, []⟩ ∧ Ext w w' := by
  refine (new_good m w h).mono ?_
  rintro e w' ⟨g, og, mb, rfl, hc, hk, hx⟩
  refine ⟨g, rfl, ⟨⟨h, by decide, by simp; omega, by simp, List.Pairwise.nil⟩, og, mb, [], hc.1, rfl, hk⟩, hx⟩
theorem c_len (h : Qc U w g most s) : Calls Try.prog 18 #[pt g] w fun e w' => e = .returned (.int .i64 s.L.length) ∧ w = w' := by
  obtain ⟨_, og, mb, R, h2, h3, _⟩ := h
  rw [← h3, List.length_map]
  exact len_no h2
def GetD (U : Nat → Prop) (w w' : World) (g : Nat) (most : Int) (s : StC) (f : FoundS) (e : Ending) : Prop :=
  ∃ A c, e = .returned (foundV f A c) ∧ OwnG isT w' w.heap.size 9 1 A f.s.data.length c (tvs f.s.data) ∧ Qc U w' g most s ∧ Shy U w w'
theorem getD_none {e : Ending} {f : FoundS} (he : e = .returned (foundV ⟨f.kind, zeroS, f.left⟩ none 0)) (hf : f.s = zeroS) (hq : Qc U w' g most s) (hs : Shy U w w') : GetD U w w' g most s f e := by
  obtain ⟨k, x, l⟩ := f
  simp only at hf he
  subst hf
  exact ⟨none, 0, he, OwnG.nil _ _ _ _ _, hq, hs⟩
set_option maxHeartbeats 2000000 in
theorem c_get (h : Qc U w g most s) {n : List UInt8} {kind rank at_ : Int} (hn : n.length ≤ 2000000) (hc : checkS n = 0) (hat : inTime at_) (hki : -9223372036854775808 ≤ kind ∧ kind ≤ 9223372036854775807) :
    Calls Try.prog 15 #[pt g, .string (str n), .int .i64 kind, .int .i64 rank, .int .i64 at_] w fun e w' => GetD U w w' g most (getS s n kind rank at_).1 (getS s n kind rank at_).2 e := by
  have hok := getS_ok h.1 n kind rank hat
  obtain ⟨now, L⟩ := s
  obtain ⟨h1, og, mb, R, h2, h3, h4⟩ := h
  simp only at h2 h3
  subst h3
  have hO := ok_rows h1
  have hB : CacB w g og mb most now R := ⟨h2, hO⟩
  have hd := hO.2.2.2.2.2.2
  have hU : ∀ k, k < w.heap.size → wrC g og mb R k → U k := fun k _ e => h4 k e.to
  have hsec : ∀ (P : Ending → World → Prop), True := fun _ => trivial
  rcases live_cases hd (tmax now at_) (lower n) kind with ⟨e1, l1⟩ | ⟨P1, r, P2, hR, r1, r2, r3, e1⟩
  · rcases live_cases hd (tmax now at_) (lower n) 0 with ⟨e2, l2⟩ | ⟨Q1, q, Q2, hR2, q1, q2, q3, e2⟩
    · have eg : getS ⟨now, R.map Row.ent⟩ n kind rank at_ = (⟨tmax now at_, R.map Row.ent⟩, ⟨0, zeroS, 0⟩) := by
        simp only [getS, get2S, e1, e2]
      rw [eg] at hok ⊢
      refine (get_fail hB hn hc hat hki l1 l2).mono ?_
      rintro e w' ⟨rfl, hm, hs⟩
      exact getD_none rfl rfl ⟨hok, og, mb, R, hm, rfl, h4⟩ (hs.mono hU)
    · cases hx : q.x with
      | known x rk e0 => exact absurd q2 ((h1.2.2.2.1 q.ent (List.mem_map_of_mem (by rw [hR2]; simp))).2.2 x rk e0 hx).1
      | none e0 =>
        have eg : getS ⟨now, R.map Row.ent⟩ n kind rank at_ = (⟨tmax now at_, backE (R.map Row.ent) q.ent⟩, ⟨3, zeroS, e0 - tmax now at_⟩) := by
          simp only [getS, get2S, e1, e2]
          rw [show q.ent.x.till = e0 from by rw [show q.ent.x = q.x from rfl, hx]; rfl]
        rw [eg] at hok ⊢
        refine (get_none_no hB hn hc hat hki l1 hR2 q1 q2 hx (by rw [hx] at q3; exact q3)).mono ?_
        rintro e w' ⟨rfl, hm, hs⟩
        refine getD_none rfl rfl ⟨hok, og, mb, backR Q1 Q2 q, hm, ?_, fun k hk => h4 k (by rw [hR2]; exact own_back hk)⟩ (hs.mono hU)
        rw [hR2] at hd ⊢
        exact back_ent hd
  · cases hx : r.x with
    | none e0 =>
      have eg : getS ⟨now, R.map Row.ent⟩ n kind rank at_ = (⟨tmax now at_, backE (R.map Row.ent) r.ent⟩, ⟨if kind = 0 then 3 else 2, zeroS, e0 - tmax now at_⟩) := by
        have er : r.ent = ⟨r.n, r.k, .none e0⟩ := by unfold Row.ent; rw [hx]
        rw [er] at e1
        simp only [getS, e1]
        rw [er]
      rw [eg] at hok ⊢
      refine (get_none hB hn hc hat hki hR r1 r2 hx (by rw [hx] at r3; exact r3)).mono ?_
      rintro e w' ⟨rfl, hm, hs⟩
      refine getD_none rfl rfl ⟨hok, og, mb, backR P1 P2 r, hm, ?_, fun k hk => h4 k (by rw [hR]; exact own_back hk)⟩ (hs.mono hU)
      rw [hR] at hd ⊢
      exact back_ent hd
    | known x rk e0 =>
      have er : r.ent = ⟨r.n, r.k, .known x rk e0⟩ := by unfold Row.ent; rw [hx]
      by_cases hrk : rank ≤ rk
      · have eg : getS ⟨now, R.map Row.ent⟩ n kind rank at_ = (⟨tmax now at_, backE (R.map Row.ent) r.ent⟩, ⟨1, ⟨x.nm, x.ty, x.cl, e0 - tmax now at_, x.data⟩, e0 - tmax now at_⟩) := by
          rw [er] at e1
          simp only [getS, e1]
          rw [er, if_pos hrk]
        rw [eg] at hok ⊢
        have hent := (h1.2.2.2.1 r.ent (List.mem_map_of_mem (by rw [hR]; simp))).2.2 x rk e0 hx
        refine (get_known hB hn hc hat hki hR r1 r2 hx hent.2 (by rw [hx] at r3; exact r3) hrk).mono ?_
        rintro e w' ⟨A', c', rfl, ho, hm, hs⟩
        refine ⟨A', c', rfl, ho, ⟨hok, og, mb, backR P1 P2 r, hm, ?_, fun k hk => h4 k (by rw [hR]; exact own_back hk)⟩, (by rw [← hR] at hs; exact hs.mono hU)⟩
        rw [hR] at hd ⊢
        exact back_ent hd
      · rcases live_cases hd (tmax now at_) (lower n) 0 with ⟨e2, l2⟩ | ⟨Q1, q, Q2, hR2, q1, q2, q3, e2⟩
        · have eg : getS ⟨now, R.map Row.ent⟩ n kind rank at_ = (⟨tmax now at_, R.map Row.ent⟩, ⟨0, zeroS, 0⟩) := by
            rw [er] at e1
            simp only [getS, get2S, e1, e2]
            rw [if_neg hrk]
          rw [eg] at hok ⊢
          refine (get_low hB hn hc hat hki hR r1 r2 hx (by rw [hx] at r3; exact r3) hrk l2).mono ?_
          rintro e w' ⟨rfl, hm, hs⟩
          exact getD_none rfl rfl ⟨hok, og, mb, R, hm, rfl, h4⟩ (hs.mono hU)
        · cases hy : q.x with
          | known y rk2 e2 => exact absurd q2 ((h1.2.2.2.1 q.ent (List.mem_map_of_mem (by rw [hR2]; simp))).2.2 y rk2 e2 hy).1
          | none f0 =>
            have eg : getS ⟨now, R.map Row.ent⟩ n kind rank at_ = (⟨tmax now at_, backE (R.map Row.ent) q.ent⟩, ⟨3, zeroS, f0 - tmax now at_⟩) := by
              rw [er] at e1
              simp only [getS, get2S, e1, e2]
              rw [if_neg hrk]
              rw [show q.ent.x.till = f0 from by rw [show q.ent.x = q.x from rfl, hy]; rfl]
            rw [eg] at hok ⊢
            refine (get_none_low hB hn hc hat hki hR r1 r2 hx (by rw [hx] at r3; exact r3) hrk hR2 q1 q2 hy (by rw [hy] at q3; exact q3)).mono ?_
            rintro e w' ⟨rfl, hm, hs⟩
            refine getD_none rfl rfl ⟨hok, og, mb, backR Q1 Q2 q, hm, ?_, fun k hk => h4 k (by rw [hR2]; exact own_back hk)⟩ (hs.mono hU)
            rw [hR2] at hd ⊢
            exact back_ent hd
theorem putR_mem {most : Int} {R : List Row} {r q : Row} (h : q ∈ putR most R r) : q ∈ R ∨ q = r := by
  have key : ∀ q ∈ outR R r.n r.k ++ [r], q ∈ R ∨ q = r := fun q hq => by
    simp only [List.mem_append, List.mem_singleton] at hq
    exact hq.imp (outR_sub q) id
  unfold putR at h
  split at h
  · exact key q (List.mem_of_mem_tail h)
  · exact key q h
theorem put_owns {og mb : Nat} {R R1 : List Row} {r : Row} (h4 : ∀ k, ownsC g og mb R k → U k) (hs : ∀ q ∈ R1, q ∈ R) (hb : w.heap.size ≤ r.b) (hA : ∀ k, blk r.A = some k → w.heap.size ≤ k) : ∀ k, ownsC g og mb (putR most R1 r) k → More U w k := by
  rintro k (rfl | rfl | rfl | ⟨q, hq, rfl⟩ | ⟨q, hq, hk⟩)
  · exact .inl (h4 _ (.inl rfl))
  · exact .inl (h4 _ (.inr (.inl rfl)))
  · exact .inl (h4 _ (.inr (.inr (.inl rfl))))
  · rcases putR_mem hq with hq | rfl
    · exact .inl (h4 _ (.inr (.inr (.inr (.inl ⟨q, hs q hq, rfl⟩)))))
    · exact .inr hb
  · rcases putR_mem hq with hq | rfl
    · exact .inl (h4 _ (.inr (.inr (.inr (.inr ⟨q, hs q hq, hk⟩)))))
    · exact .inr (hA k hk)
set_option maxHeartbeats 2000000 in
theorem c_put (h : Qc U w g most s) {x : SetS} {A : Option Addr} {c : Nat} (hA : RdG w 1 A x.data.length c (tvs x.data)) (hx : SetOk x) (hcl : x.cl = 1) (hty : x.ty ≠ 0) (htt : 0 < x.ttl) {rank at_ : Int} (hr1 : 1 ≤ rank) (hr3 : rank ≤ 3) (hat : inTime at_)
    (hAb : ∀ k, blk A = some k → ¬ U k) :
    Calls Try.prog 14 #[pt g, .agg #[.string (str x.nm), .int .i64 x.ty, .int .i64 x.cl, .int .i64 x.ttl, .slice A x.data.length c], .int .i64 rank, .int .i64 at_] w fun e w' =>
      e = .returned (.tuple #[.bool (putS most s x rank at_).2, .int .i64 0]) ∧ Qc (More U w) w' g most (putS most s x rank at_).1 ∧ Shy U w w' := by
  have hok := putS_ok h.1 hx hty rank hat
  obtain ⟨now, L⟩ := s
  obtain ⟨h1, og, mb, R, h2, h3, h4⟩ := h
  simp only at h2 h3
  subst h3
  have hO := ok_rows h1
  have hB : CacB w g og mb most now R := ⟨h2, hO⟩
  have hd := hO.2.2.2.2.2.2
  have hU : ∀ k, k < w.heap.size → wrC g og mb R k → U k := fun k _ e => h4 k e.to
  have hAw : ∀ k, blk A = some k → ¬ wrC g og mb R k := fun k hk e => hAb k hk (h4 k e.to)
  have yes : ∀ (R1 : List Row) (rk : Int) (e : Ending) (w' : World), (∀ q ∈ R1, q ∈ R) → StOk most ⟨tmax now at_, putE most (R1.map Row.ent) (setE x rk (tmax now at_))⟩ → PutSD w w' g og mb most (tmax now at_) R R1 x rk e →
      e = .returned (.tuple #[.bool true, .int .i64 0]) ∧ Qc (More U w) w' g most ⟨tmax now at_, putE most (R1.map Row.ent) (setE x rk (tmax now at_))⟩ ∧ Shy U w w' := by
    rintro R1 rk e w' hsub hok ⟨b, A', c', rfl, hb, hA', hm, hs⟩
    refine ⟨rfl, ⟨hok, og, mb, _, hm, ?_, put_owns (w := w) h4 hsub hb hA'⟩, hs.mono hU⟩
    rw [put_ent]
    rfl
  have no : ∀ (e : Ending) (w' : World), StOk most ⟨tmax now at_, R.map Row.ent⟩ → PutNoD w w' g og mb most (tmax now at_) R e → e = .returned (.tuple #[.bool false, .int .i64 0]) ∧ Qc (More U w) w' g most ⟨tmax now at_, R.map Row.ent⟩ ∧ Shy U w w' := by
    rintro e w' hok ⟨rfl, hm, hs⟩
    exact ⟨rfl, ⟨hok, og, mb, R, hm, rfl, fun k hk => .inl (h4 k hk)⟩, hs.mono hU⟩
  by_cases hr : rank < 3
  · rcases live_cases hd (tmax now at_) (lower x.nm) x.ty with ⟨e1, l1⟩ | ⟨P1, r, P2, hR, r1, r2, r3, e1⟩
    · have eg : putS most ⟨now, R.map Row.ent⟩ x rank at_ = (⟨tmax now at_, putE most (R.map Row.ent) (setE x rank (tmax now at_))⟩, true) := by
        simp only [putS, if_pos hr, e1]
      rw [eg] at hok ⊢
      refine (putset_free hB hA hx hcl hty htt hr1 hr hat hAw l1).mono ?_
      exact fun e w' hp => yes R rank e w' (fun q h => h) hok hp
    · cases hr0 : r.x with
      | none e0 =>
        have er : r.ent = ⟨r.n, r.k, .none e0⟩ := by unfold Row.ent; rw [hr0]
        have eg : putS most ⟨now, R.map Row.ent⟩ x rank at_ = (⟨tmax now at_, R.map Row.ent⟩, false) := by
          rw [er] at e1
          simp only [putS, if_pos hr, e1]
        rw [eg] at hok ⊢
        refine (putset_none hB hA hx hcl hty htt hr1 hr hat hAw hR r1 r2 r3 hr0).mono ?_
        exact fun e w' hp => no e w' hok hp
      | known s0 rk e0 =>
        have er : r.ent = ⟨r.n, r.k, .known s0 rk e0⟩ := by unfold Row.ent; rw [hr0]
        by_cases hrk : rk ≤ rank
        · have eg : putS most ⟨now, R.map Row.ent⟩ x rank at_ = (⟨tmax now at_, putE most (R.map Row.ent) (setE x rank (tmax now at_))⟩, true) := by
            rw [er] at e1
            simp only [putS, if_pos hr, e1, if_pos hrk]
          rw [eg] at hok ⊢
          refine (putset_better hB hA hx hcl hty htt hr1 hr hat hAw hR r1 r2 r3 hr0 hrk).mono ?_
          exact fun e w' hp => yes R rank e w' (fun q h => h) hok hp
        · have eg : putS most ⟨now, R.map Row.ent⟩ x rank at_ = (⟨tmax now at_, R.map Row.ent⟩, false) := by
            rw [er] at e1
            simp only [putS, if_pos hr, e1, if_neg hrk]
          rw [eg] at hok ⊢
          refine (putset_worse hB hA hx hcl hty htt hr1 hr hat hAw hR r1 r2 r3 hr0 hrk).mono ?_
          exact fun e w' hp => no e w' hok hp
  · obtain rfl : rank = 3 := by omega
    have eg : putS most ⟨now, R.map Row.ent⟩ x 3 at_ = (⟨tmax now at_, putE most ((outR R (lower x.nm) 0).map Row.ent) (setE x 3 (tmax now at_))⟩, true) := by
      simp only [putS, if_neg hr, out_ent]
    rw [eg] at hok ⊢
    refine (putset_top hB hA hx hcl hty htt rfl hat hAw).mono ?_
    exact fun e w' hp => yes _ 3 e w' (fun q h => outR_sub q h) hok hp
end
end Go.Proofs.Ytcddfenhkljpeaa

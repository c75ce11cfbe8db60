/- Layer 23: all that a cache answers, whatever it is asked. -/
import Derived.Test.YtcddfenhkljpeaaChcAb
import Derived.Test.YtcddfenhkljpeaaChcAd
namespace Go.BK.CH
def goneO (L : List Ent) (t : Int) : List Ent := L.filter (fun e => !decide (e.x.till ≤ t))
end Go.BK.CH
namespace Go.Proofs.Ytcddfenhkljpeaa
open Go.BK Go.BK.CH Go.BK.NM Go.RowKit Go.Maps
set_option linter.unusedVariables false
set_option linter.unusedSimpArgs false
theorem over_ent (R : List Row) (t : Int) : (overR R t).map Row.ent = goneO (R.map Row.ent) t := by
  unfold overR goneO
  rw [List.filter_map]
  rfl
def putBad (x : SetS) (rank at_ : Int) : Prop := chkS x ≠ 0 ∨ x.cl ≠ 1 ∨ x.ty = 0 ∨ rank < 1 ∨ 3 < rank ∨ ¬ inTime at_
instance (x : SetS) (rank at_ : Int) : Decidable (putBad x rank at_) := by unfold putBad; infer_instance
def putG (most : Int) (s : StC) (x : SetS) (rank at_ : Int) : StC × Bool × Int :=
  if putBad x rank at_ then (s, false, 2) else if x.ttl = 0 then (⟨tmax s.now at_, s.L⟩, false, 0) else ((putS most s x rank at_).1, (putS most s x rank at_).2, 0)
def noneBad (n : List UInt8) (kind ttl at_ : Int) : Prop := checkS n ≠ 0 ∨ kind < 0 ∨ 65535 < kind ∨ ttl < 0 ∨ 2147483648 ≤ ttl ∨ ¬ inTime at_
instance (n : List UInt8) (kind ttl at_ : Int) : Decidable (noneBad n kind ttl at_) := by unfold noneBad; infer_instance
def noneG (most : Int) (s : StC) (n : List UInt8) (kind ttl at_ : Int) : StC × Bool × Int :=
  if noneBad n kind ttl at_ then (s, false, 2) else if ttl = 0 then (⟨tmax s.now at_, s.L⟩, false, 0) else (putNoneS most s n kind ttl at_, true, 0)
def getBad (n : List UInt8) (at_ : Int) : Prop := checkS n ≠ 0 ∨ ¬ inTime at_
instance (n : List UInt8) (at_ : Int) : Decidable (getBad n at_) := by unfold getBad; infer_instance
def getG (s : StC) (n : List UInt8) (kind rank at_ : Int) : StC × FoundS := if getBad n at_ then (s, ⟨0, zeroS, 0⟩) else getS s n kind rank at_
def sweepG (s : StC) (at_ : Int) : StC × Nat :=
  if inTime at_ then (⟨tmax s.now at_, goneO s.L (tmax s.now at_)⟩, s.L.length - (goneO s.L (tmax s.now at_)).length) else (s, 0)
theorem putBad_no {x : SetS} {rank at_ : Int} (h : ¬ putBad x rank at_) : chkS x = 0 ∧ x.cl = 1 ∧ x.ty ≠ 0 ∧ ¬ rank < 1 ∧ ¬ 3 < rank ∧ inTime at_ := by
  unfold putBad at h
  simp only [not_or, Classical.not_not, ne_eq] at h
  exact h
theorem noneBad_no {n : List UInt8} {kind ttl at_ : Int} (h : ¬ noneBad n kind ttl at_) : checkS n = 0 ∧ ¬ kind < 0 ∧ ¬ 65535 < kind ∧ ¬ ttl < 0 ∧ ¬ 2147483648 ≤ ttl ∧ inTime at_ := by
  unfold noneBad at h
  simp only [not_or, Classical.not_not, ne_eq] at h
  exact h
section
variable {U : Nat → Prop} {w w' : World} {g : Nat} {most : Int} {s : StC}
theorem sweep_ok (h : StOk most s) {at_ : Int} (hat : inTime at_) : StOk most (sweepG s at_).1 := by
  unfold sweepG
  rw [if_pos hat]
  have ht := tmax_range h.2.1 hat
  refine ⟨h.1, ht, ?_, fun e he => h.2.2.2.1 e (List.mem_filter.1 he).1, List.Pairwise.filter _ h.2.2.2.2⟩
  have h1 : (goneO s.L (tmax s.now at_)).length ≤ s.L.length := List.length_filter_le _ _
  have h2 := h.2.2.1
  simp only
  omega
theorem Qc.time (h : Qc U w g most s) {og mb : Nat} {R : List Row} {t : Int} (ht : 0 ≤ t ∧ t ≤ 1099511627776) (hm : CacM w' g og mb most t R) (hR : R.map Row.ent = s.L) (hk : ∀ k, ownsC g og mb R k → U k) : Qc U w' g most ⟨t, s.L⟩ :=
  ⟨h.1.time ht, og, mb, R, hm, hR, hk⟩
theorem qc_more (h : Qc U w' g most s) (hz : w.heap.size ≤ w'.heap.size) : Qc (More U w) w' g most s := h.mono fun k _ u => .inl u
theorem c_put_any (h : Qc U w g most s) {x : SetS} {A : Option Addr} {c : Nat} (hA : RdG w 1 A x.data.length c (tvs x.data)) (hn : x.nm.length ≤ 2000000) (hd : ∀ d ∈ x.data, d.length ≤ 65535) {rank at_ : Int} (hAb : 1 ≤ x.data.length → ∀ k, blk A = some k → ¬ U k) :
    Calls Try.prog 14 #[pt g, .agg #[.string (str x.nm), .int .i64 x.ty, .int .i64 x.cl, .int .i64 x.ttl, .slice A x.data.length c], .int .i64 rank, .int .i64 at_] w fun e w' =>
      e = .returned (.tuple #[.bool (putG most s x rank at_).2.1, .int .i64 (putG most s x rank at_).2.2]) ∧ Qc (More U w) w' g most (putG most s x rank at_).1 ∧ Shy U w w' := by
  by_cases hb : putBad x rank at_
  · have eg : putG most s x rank at_ = (s, false, 2) := by unfold putG; rw [if_pos hb]
    rw [eg]
    obtain ⟨h1, og, mb, R, h2, h3, h4⟩ := h
    have fin : ∀ e w', e = Ending.returned (.tuple #[.bool false, .int .i64 2]) ∧ Ext w w' → e = .returned (.tuple #[.bool false, .int .i64 2]) ∧ Qc (More U w) w' g most s ∧ Shy U w w' := by
      rintro e w' ⟨rfl, x⟩
      exact ⟨rfl, ⟨h1, og, mb, R, h2.ext x, h3, fun k hk => .inl (h4 k hk)⟩, Shy.of_ext x⟩
    by_cases b1 : chkS x = 0
    rotate_left
    · exact (putset_bad1 h2 hA hn hd b1).mono fin
    by_cases b2 : x.cl = 1
    rotate_left
    · exact (putset_bad2 h2 hA hn hd ⟨b1, b2⟩).mono fin
    by_cases b3 : x.ty = 0
    · exact (putset_bad3 h2 hA hn hd ⟨b1, b2, b3⟩).mono fin
    by_cases b4 : rank < 1
    · exact (putset_bad4 h2 hA hn hd ⟨b1, b2, b3, b4⟩).mono fin
    by_cases b5 : 3 < rank
    · exact (putset_bad5 h2 hA hn hd ⟨b1, b2, b3, b4, b5⟩).mono fin
    refine (putset_bad6 h2 hA hn hd ⟨b1, b2, b3, b4, b5, fun b6 => ?_⟩).mono fin
    rcases hb with e | e | e | e | e | e
    · exact e b1
    · exact e b2
    · exact b3 e
    · exact b4 e
    · exact b5 e
    · exact e b6
  · obtain ⟨b1, b2, b3, b4, b5, b6⟩ := putBad_no hb
    by_cases ht : x.ttl = 0
    · have eg : putG most s x rank at_ = (⟨tmax s.now at_, s.L⟩, false, 0) := by unfold putG; rw [if_neg hb, if_pos ht]
      rw [eg]
      obtain ⟨h1, og, mb, R, h2, h3, h4⟩ := h
      refine (putset_zero h2 hA hn hd ⟨b1, b2, b3, b4, b5, ht⟩ b6).mono ?_
      rintro e w' ⟨rfl, hm, hs⟩
      exact ⟨rfl, ⟨h1.time (tmax_range h1.2.1 b6), og, mb, R, hm, h3, fun k hk => .inl (h4 k hk)⟩, hs.mono fun k _ e => h4 k e.to⟩
    · have eg : putG most s x rank at_ = ((putS most s x rank at_).1, (putS most s x rank at_).2, 0) := by unfold putG; rw [if_neg hb, if_neg ht]
      rw [eg]
      have hok := chk_ok b1 hn hd
      exact c_put h hA hok b2 b3 (by have := hok.2.2.2.2.1; omega) (by omega) (by omega) b6 (hAb hok.2.2.2.2.2.1.1)
theorem c_none_any (h : Qc U w g most s) {n : List UInt8} {kind ttl at_ : Int} (hn : n.length ≤ 2000000) :
    Calls Try.prog 17 #[pt g, .string (str n), .int .i64 kind, .int .i64 ttl, .int .i64 at_] w fun e w' =>
      e = .returned (.tuple #[.bool (noneG most s n kind ttl at_).2.1, .int .i64 (noneG most s n kind ttl at_).2.2]) ∧ Qc (More U w) w' g most (noneG most s n kind ttl at_).1 ∧ Shy U w w' := by
  by_cases hb : noneBad n kind ttl at_
  · have eg : noneG most s n kind ttl at_ = (s, false, 2) := by unfold noneG; rw [if_pos hb]
    rw [eg]
    obtain ⟨h1, og, mb, R, h2, h3, h4⟩ := h
    have fin : ∀ e w', e = Ending.returned (.tuple #[.bool false, .int .i64 2]) ∧ Ext w w' → e = .returned (.tuple #[.bool false, .int .i64 2]) ∧ Qc (More U w) w' g most s ∧ Shy U w w' := by
      rintro e w' ⟨rfl, x⟩
      exact ⟨rfl, ⟨h1, og, mb, R, h2.ext x, h3, fun k hk => .inl (h4 k hk)⟩, Shy.of_ext x⟩
    by_cases b1 : checkS n = 0
    rotate_left
    · exact (putnone_bad1 h2 hn b1).mono fin
    by_cases b2 : kind < 0
    · exact (putnone_bad2 h2 hn ⟨b1, b2⟩).mono fin
    by_cases b3 : 65535 < kind
    · exact (putnone_bad3 h2 hn ⟨b1, b2, b3⟩).mono fin
    by_cases b4 : ttl < 0
    · exact (putnone_bad4 h2 hn ⟨b1, b2, b3, b4⟩).mono fin
    by_cases b5 : 2147483648 ≤ ttl
    · exact (putnone_bad5 h2 hn ⟨b1, b2, b3, b4, b5⟩).mono fin
    refine (putnone_bad6 h2 hn ⟨b1, b2, b3, b4, b5, fun b6 => ?_⟩).mono fin
    rcases hb with e | e | e | e | e | e
    · exact e b1
    · exact b2 e
    · exact b3 e
    · exact b4 e
    · exact b5 e
    · exact e b6
  · obtain ⟨b1, b2, b3, b4, b5, b6⟩ := noneBad_no hb
    by_cases ht : ttl = 0
    · have eg : noneG most s n kind ttl at_ = (⟨tmax s.now at_, s.L⟩, false, 0) := by unfold noneG; rw [if_neg hb, if_pos ht]
      rw [eg]
      obtain ⟨h1, og, mb, R, h2, h3, h4⟩ := h
      refine (putnone_zero h2 hn ⟨b1, b2, b3, ht⟩ b6).mono ?_
      rintro e w' ⟨rfl, hm, hs⟩
      exact ⟨rfl, ⟨h1.time (tmax_range h1.2.1 b6), og, mb, R, hm, h3, fun k hk => .inl (h4 k hk)⟩, hs.mono fun k _ e => h4 k e.to⟩
    · have eg : noneG most s n kind ttl at_ = (putNoneS most s n kind ttl at_, true, 0) := by unfold noneG; rw [if_neg hb, if_neg ht]
      rw [eg]
      exact c_putnone h hn b1 b6 (by omega) (by omega)
theorem c_get_any (h : Qc U w g most s) {n : List UInt8} {kind rank at_ : Int} (hn : n.length ≤ 2000000) (hki : -9223372036854775808 ≤ kind ∧ kind ≤ 9223372036854775807) :
    Calls Try.prog 15 #[pt g, .string (str n), .int .i64 kind, .int .i64 rank, .int .i64 at_] w fun e w' => GetD U w w' g most (getG s n kind rank at_).1 (getG s n kind rank at_).2 e := by
  by_cases hb : getBad n at_
  · have eg : getG s n kind rank at_ = (s, ⟨0, zeroS, 0⟩) := by unfold getG; rw [if_pos hb]
    rw [eg]
    obtain ⟨h1, og, mb, R, h2, h3, h4⟩ := h
    have fin : ∀ e w', e = Ending.returned (.agg #[.int .i64 0, .string ⟨#[]⟩, .int .i64 0, .int .i64 0, .int .i64 0, .slice none 0 0, .int .i64 0]) ∧ Ext w w' → GetD U w w' g most s ⟨0, zeroS, 0⟩ e := by
      rintro e w' ⟨rfl, x⟩
      exact getD_none rfl rfl ⟨h1, og, mb, R, h2.ext x, h3, h4⟩ (Shy.of_ext x)
    by_cases b1 : checkS n = 0
    rotate_left
    · exact (get_bad1 h2 hn b1).mono fin
    refine (get_bad2 h2 hn ⟨b1, fun b2 => ?_⟩).mono fin
    rcases hb with e | e
    · exact e b1
    · exact e b2
  · have eg : getG s n kind rank at_ = getS s n kind rank at_ := by unfold getG; rw [if_neg hb]
    rw [eg]
    have hb2 : checkS n = 0 ∧ inTime at_ := by
      unfold getBad at hb
      simp only [not_or, Classical.not_not, ne_eq] at hb
      exact hb
    exact c_get h hn hb2.1 hb2.2 hki
set_option maxHeartbeats 2000000 in
set_option maxRecDepth 100000 in
theorem sweep_late {og mb : Nat} {now : Int} {R : List Row} (h : CacM w g og mb most now R) {at_ : Int} (hat : ¬ inTime at_) :
    Calls Try.prog 25 #[pt g, .int .i64 at_] w fun e w' => e = .returned (.int .i64 0) ∧ w = w' := by
  have CAB := hid (absent_no h)
  have CWI := fun W => within_in at_ W
  rw [decide_eq_false hat] at CWI
  have CWI := hid CWI
  simp only [pt]
  clear h
  go_enter Try.func25, Try.ntmps25
  go_wp2_with fail
  refine CAB.out.mono ?_
  rintro e _ ⟨rfl, rfl⟩
  go_wp2_with fail
  refine (CWI.out _).mono ?_
  rintro e _ ⟨rfl, rfl⟩
  go_wp2_with fail
  go_ret
  exact ⟨rfl, rfl⟩
theorem c_sweep (h : Qc U w g most s) (at_ : Int) :
    Calls Try.prog 25 #[pt g, .int .i64 at_] w fun e w' => e = .returned (.int .i64 ((sweepG s at_).2 : Nat)) ∧ Qc U w' g most (sweepG s at_).1 ∧ Shy U w w' := by
  by_cases hat : inTime at_
  · have hok := sweep_ok h.1 hat
    obtain ⟨now, L⟩ := s
    obtain ⟨h1, og, mb, R, h2, h3, h4⟩ := h
    simp only at h2 h3
    subst h3
    have hB : CacB w g og mb most now R := ⟨h2, ok_rows h1⟩
    unfold sweepG at hok ⊢
    rw [if_pos hat] at hok ⊢
    refine (sweep_in hB hat).mono ?_
    rintro e w' ⟨rfl, hm, hs⟩
    simp only at hok ⊢
    refine ⟨by rw [← over_ent, List.length_map, List.length_map], ⟨hok, og, mb, overR R (tmax now at_), hm, over_ent R _, fun k hk => h4 k ?_⟩, hs.mono fun k _ e => h4 k e.to⟩
    rcases hk with e | e | e | ⟨q, hq, e⟩ | ⟨q, hq, e⟩
    · exact .inl e
    · exact .inr (.inl e)
    · exact .inr (.inr (.inl e))
    · exact .inr (.inr (.inr (.inl ⟨q, (List.mem_filter.1 hq).1, e⟩)))
    · exact .inr (.inr (.inr (.inr ⟨q, (List.mem_filter.1 hq).1, e⟩)))
  · obtain ⟨h1, og, mb, R, h2, h3, h4⟩ := h
    unfold sweepG
    rw [if_neg hat]
    refine (sweep_late h2 hat).mono ?_
    rintro e w' ⟨rfl, rfl⟩
    exact ⟨rfl, ⟨h1, og, mb, R, h2, h3, h4⟩, Shy.refl _⟩
end
end Go.Proofs.Ytcddfenhkljpeaa

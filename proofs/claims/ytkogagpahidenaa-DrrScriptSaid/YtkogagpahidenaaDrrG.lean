/- Layer 21: the scheduler as a whole: its state, and what each call makes of it; SameInts. -/
import Derived.Test.YtkogagpahidenaaDrrF
namespace Go.Proofs.Ytkogagpahidenaa
open Go.BK Go.BK.DR Go.RowKit Go.Maps
set_option linter.unusedVariables false

/-- The scheduler g is in the state s; its blocks are all U's. -/
def Qs (U : Nat → Prop) (w : World) (g : Nat) (p : Par) (s : St) : Prop :=
  p.ok ∧ s.ok p ∧ ∃ lb mb R, QR w g lb mb p R s.turn (lenS s) ∧ s.ring = R.map Row.cl ∧ ∀ k, ownsQ g lb mb R k → U k
/-- U, and what is new. -/
def More (U : Nat → Prop) (w : World) (k : Nat) : Prop := U k ∨ w.heap.size ≤ k
section
variable {U V : Nat → Prop} {w w' : World} {g : Nat} {p : Par} {s : St}
theorem Qs.mono (h : Qs U w g p s) (hV : ∀ k, k < w.heap.size → U k → V k) : Qs V w g p s := by
  obtain ⟨h1, h2, lb, mb, R, h3, h4, h5⟩ := h
  exact ⟨h1, h2, lb, mb, R, h3, h4, fun k hk => hV k (h3.lt k hk) (h5 k hk)⟩
theorem Qs.shy (h : Qs U w g p s) (hs : Shy V w w') (hV : ∀ k, k < w.heap.size → U k → ¬ V k) : Qs U w' g p s := by
  obtain ⟨h1, h2, lb, mb, R, h3, h4, h5⟩ := h
  exact ⟨h1, h2, lb, mb, R, h3.shy hs fun k hk => hV k (h3.lt k hk) (h5 k hk), h4, h5⟩
theorem Qs.ext (h : Qs U w g p s) (hs : Ext w w') : Qs U w' g p s := h.shy (V := fun _ => False) (Shy.of_ext hs) fun _ _ _ h => h
theorem Qs.drewN (h : Qs U w g p s) (n : Nat) : Qs U (w.drewN n) g p s := h.ext (ext_drewN w n)
theorem Qs.wfn (h : Qs U w g p s) : ∀ c ∈ s.ring, wfI c.n := by
  obtain ⟨_, _, lb, mb, R, h3, h4, _⟩ := h
  rw [h4]
  intro c hc
  obtain ⟨r, hr, rfl⟩ := List.mem_map.1 hc
  exact h3.wf r hr
theorem st_eq {s : St} {R : List Row} (h : s.ring = R.map Row.cl) : s = stR R s.turn := by
  obtain ⟨r, t⟩ := s
  simp only at h
  subst h
  rfl
theorem map_split {R : List Row} {R1 R2 : List Cl} {c : Cl} (h : R.map Row.cl = R1 ++ c :: R2) : ∃ S1 r S2, R = S1 ++ r :: S2 ∧ S1.map Row.cl = R1 ∧ r.cl = c ∧ S2.map Row.cl = R2 := by
  rw [List.map_eq_append_iff] at h
  obtain ⟨S1, S, h1, h2, h3⟩ := h
  cases S with
  | nil => simp at h3
  | cons r S2 =>
    simp at h3
    exact ⟨S1, r, S2, h1, h2, h3.1, h3.2⟩
theorem q_new (a b c d : Int) (w : World) (h : (⟨a, b, c, d⟩ : Par).ok) : Calls Try.prog 11 #[.int .i64 a, .int .i64 b, .int .i64 c, .int .i64 d] w fun e w' => ∃ g, e = .returned (.tuple #[.pointer (some ⟨g, 0, none⟩), .int .i64 0]) ∧ Qs (fun k => w.heap.size ≤ k) w' g ⟨a, b, c, d⟩ ⟨[], false⟩ ∧ Ext w w' := by
  refine (new_ok ⟨a, b, c, d⟩ w h).mono ?_
  rintro e w' ⟨g, lb, mb, rfl, hq, hk, hx⟩
  refine ⟨g, rfl, ⟨h, ?_, lb, mb, [], hq, rfl, hk⟩, hx⟩
  unfold Par.ok at h
  simp only at h
  exact ⟨by simp; omega, by simp, by simp, by simp [low], by simp⟩
theorem q_len (h : Qs U w g p s) : Calls Try.prog 19 #[.pointer (some ⟨g, 0, none⟩)] w fun e w' => e = .returned (.int .i64 (lenS s)) ∧ w = w' := by
  obtain ⟨_, _, lb, mb, R, h3, _, _⟩ := h
  exact len_any h3
theorem q_of (h : Qs U w g p s) (a : Int) (ha : wfI a) : Calls Try.prog 14 #[.pointer (some ⟨g, 0, none⟩), .int .i64 a] w fun e w' => e = .returned (.int .i64 (ofS s a)) ∧ w = w' := by
  obtain ⟨_, h2, lb, mb, R, h3, h4, _⟩ := h
  rcases split_at s a with hno | ⟨R1, c, R2, hR, rfl⟩
  · have e0 : ofS s a = 0 := by unfold ofS; rw [find_none hno]; rfl
    rw [e0]
    exact of_no h3 a ha fun r hr => hno r.cl (by rw [h4]; exact List.mem_map_of_mem hr)
  · have hd := h2.2.2.1
    rw [h4] at hR
    obtain ⟨S1, r, S2, rfl, e1, rfl, e2⟩ := map_split hR
    have e0 : ofS s r.cl.n = r.cl.L.length := by
      unfold ofS
      rw [st_eq h4]
      unfold stR
      rw [h4] at hd
      rw [List.map_append, List.map_cons] at hd ⊢
      rw [find_some _ hd]
      rfl
    rw [e0]
    exact of_yes h3 (by simp)
theorem q_clients (h : Qs U w g p s) : Calls Try.prog 15 #[.pointer (some ⟨g, 0, none⟩)] w fun e w' => ∃ A c, e = .returned (.slice A (clientsS s).length c) ∧ OwnG isI w' w.heap.size 3 1 A (clientsS s).length c (intsV (clientsS s)) ∧ Ext w w' := by
  obtain ⟨_, _, lb, mb, R, h3, h4, _⟩ := h
  have e : clientsS s = R.map fun r => r.cl.n := by unfold clientsS; rw [h4]; simp
  have e2 : (R.map fun r => r.cl.n).length = R.length := by simp
  rw [e, e2]
  exact clients_any h3
theorem q_peek (h : Qs U w g p s) : Calls Try.prog 22 #[.pointer (some ⟨g, 0, none⟩)] w fun e w' => e = .returned (tellV (peekS p s)) ∧ Ext w w' := by
  obtain ⟨h1, h2, lb, mb, R, h3, h4, _⟩ := h
  rw [st_eq h4] at h2 ⊢
  exact peek_any h3 h1 h2
theorem q_next (h : Qs U w g p s) : Calls Try.prog 13 #[.pointer (some ⟨g, 0, none⟩)] w fun e w' => e = .returned (tellV (nextS p s).2) ∧ Qs (More U w) w' g p (nextS p s).1 ∧ Shy U w w' := by
  obtain ⟨h1, h2, lb, mb, R, h3, h4, h5⟩ := h
  have hn := (next_ok h1 h2).1
  have e0 := st_eq h4
  have e1 : (lenS s : Int) = (lenS (stR R s.turn) : Nat) := by rw [← e0]
  refine (next_any h3 h1 (e0 ▸ h2) e1).mono ?_
  rw [← e0]
  rintro e w' ⟨rfl, R', q1, q2, q3, q4⟩
  exact ⟨rfl, ⟨h1, hn, lb, mb, R', q1, q2, fun k hk => (q3 k hk).imp (h5 k) id⟩, q4.mono fun k _ hk => h5 k hk⟩
theorem q_drop (h : Qs U w g p s) (a : Int) (ha : wfI a) : Calls Try.prog 18 #[.pointer (some ⟨g, 0, none⟩), .int .i64 a] w fun e w' => ∃ A c, e = .returned (.slice A (dropS s a).2.length c) ∧ OwnG isI w' w.heap.size 3 1 A (dropS s a).2.length c (intsV (dropS s a).2) ∧ Qs (More U w) w' g p (dropS s a).1 ∧ Shy U w w' := by
  have hh := h
  obtain ⟨h1, h2, lb, mb, R, h3, h4, h5⟩ := h
  have hdo := drop_ok (n := a) h2
  rcases split_at s a with hno | ⟨R1, c, R2, hR, rfl⟩
  · rw [drop_none hno]
    refine (drop_no h3 a ha fun r hr => hno r.cl (by rw [h4]; exact List.mem_map_of_mem hr)).mono ?_
    rintro e w' ⟨rfl, rfl⟩
    exact ⟨none, 0, rfl, OwnG.nil _ _ _ _ _, hh.mono fun k _ hk => .inl hk, Shy.refl _⟩
  · have hd := h2.2.2.1
    have hlen := len_le h2 h1
    have hR' := hR
    rw [h4] at hR
    obtain ⟨S1, r, S2, rfl, e1, rfl, e2⟩ := map_split hR
    have e0 := st_eq h4
    have hL : r.cl.L ≠ [] := (h2.2.1 r.cl (by rw [hR']; simp)).1
    have e3 : dropS s r.cl.n = (⟨R1 ++ R2, if R1 = [] then false else s.turn⟩, r.cl.L.map Prod.snd) := by
      have hs : s = ⟨R1 ++ r.cl :: R2, s.turn⟩ := by rw [← hR']
      rw [hR'] at hd
      rw [hs]
      exact drop_there hd
    rw [e3] at hdo ⊢
    have e4 : (lenS s : Int) - r.cl.L.length = (lenS (⟨R1 ++ R2, if R1 = [] then false else s.turn⟩ : St) : Nat) := by
      unfold lenS
      rw [hR']
      simp
      omega
    have e5 : r.cl.L.length ≤ lenS s := by
      unfold lenS
      rw [hR']
      simp
      omega
    refine (drop_yes h3 hL ⟨by omega, by omega⟩).mono ?_
    rintro e w' ⟨A, c, rfl, o1, q1, s1⟩
    simp only [List.length_map]
    refine ⟨A, c, rfl, o1, ⟨h1, hdo, lb, mb, S1 ++ S2, ?_, by simp [e1, e2], fun k hk => .inl (h5 k (owns_sub (fun t ht => ⟨t, by simp at ht ⊢; rcases ht with ht | ht; exact .inl ht; exact .inr (.inr ht), rfl, rfl, fun _ h => h⟩) k hk))⟩, s1.mono fun k _ hk => h5 k hk⟩
    rw [e4] at q1
    have e6 : (if S1 = [] then false else s.turn) = if R1 = [] then false else s.turn := by
      rw [← e1]
      cases S1 <;> simp
    rw [e6] at q1
    exact q1
theorem q_put (h : Qs U w g p s) (a cost x : Int) (ha : wfI a) : Calls Try.prog 12 #[.pointer (some ⟨g, 0, none⟩), .int .i64 a, .int .i64 cost, .int .i64 x] w fun e w' => e = .returned (.int .i64 (putS p s a cost x).2) ∧ Qs (More U w) w' g p (putS p s a cost x).1 ∧ Shy U w w' := by
  have hh := h
  obtain ⟨h1, h2, lb, mb, R, h3, h4, h5⟩ := h
  have hpo := put_ok (n := a) (cost := cost) (x := x) h1 h2
  have hlen := len_le h2 h1
  have hp := h1
  unfold Par.ok at hp
  have same : ∀ w', Ext w w' → Qs (More U w) w' g p s ∧ Shy U w w' := fun w' hx => ⟨(hh.ext hx).mono fun k _ hk => .inl hk, Shy.of_ext hx⟩
  have hl : (s.ring.length : Int) ≤ p.clients := h2.1
  have hl2 : s.ring.length = R.length := by rw [h4]; simp
  by_cases hc : cost < 1 ∨ p.most < cost
  · have e0 : putS p s a cost x = (s, 5) := by unfold putS; rw [if_pos hc]
    rw [e0]
    refine (put_bad h3 a cost x hc).mono ?_
    rintro e w' ⟨rfl, rfl⟩
    exact ⟨rfl, same w (Below.refl _ _)⟩
  · have hc' : 1 ≤ cost ∧ cost ≤ p.most := by omega
    rcases split_at s a with hno | ⟨R1, c, R2, hR, rfl⟩
    · have hno' : ∀ r ∈ R, r.cl.n ≠ a := fun r hr => hno r.cl (by rw [h4]; exact List.mem_map_of_mem hr)
      rw [put_new hc' hno] at hpo ⊢
      by_cases hf : p.clients ≤ s.ring.length
      · rw [if_pos hf]
        refine (put_many h3 a cost x ha hno' hc' (by omega)).mono ?_
        rintro e w' ⟨rfl, nq, rfl⟩
        exact ⟨rfl, same _ (ext_drewN _ _)⟩
      · rw [if_neg hf] at hpo ⊢
        have hnil : ∀ r ∈ R, blk r.A ≠ none := by
          intro r hr
          have hL := (h2.2.1 r.cl (by rw [h4]; exact List.mem_map_of_mem hr)).1
          obtain ⟨b, o, hA, _⟩ := h3.items hr hL
          rw [hA]
          simp
        refine (put_first h3 a cost x ha hno' hnil hc' (by omega) (by omega) (by omega) ⟨by omega, by omega⟩).mono ?_
        rintro v w' ⟨rfl, e, c, A', c', q1, z1, z2, ⟨b, z3, z4⟩, s1⟩
        refine ⟨rfl, ⟨h1, hpo, lb, mb, R ++ [⟨⟨a, 0, [(cost, x)]⟩, e, c, A', c'⟩], ?_, ?_, ?_⟩, s1.mono fun k _ hk => h5 k hk⟩
        · have e1 : (lenS s : Int) + 1 = (lenS (⟨s.ring ++ [⟨a, 0, [(cost, x)]⟩], s.turn⟩ : St) : Nat) := by unfold lenS; simp
          rw [e1] at q1
          exact q1
        · simp [h4]
        · intro k hk
          rcases hk with hk | hk | hk | ⟨r, hr, hk⟩
          · exact .inl (h5 k (.inl hk))
          · exact .inl (h5 k (.inr (.inl hk)))
          · exact .inl (h5 k (.inr (.inr (.inl hk))))
          · rcases List.mem_append.1 hr with hr | hr
            · exact .inl (h5 k (.inr (.inr (.inr ⟨r, hr, hk⟩))))
            · simp at hr
              subst hr
              refine .inr ?_
              simp only at hk
              rcases hk with hk | hk | hk
              · omega
              · omega
              · rw [z3] at hk
                injection hk with hk
                omega
    · have hd := h2.2.2.1
      have hR' := hR
      rw [h4] at hR
      obtain ⟨S1, r, S2, rfl, e1, rfl, e2⟩ := map_split hR
      have hs : s = ⟨R1 ++ r.cl :: R2, s.turn⟩ := by rw [← hR']
      rw [hR'] at hd
      have e3 := put_there (p := p) (t := s.turn) (x := x) hc' hd
      rw [← hs] at e3
      rw [e3] at hpo ⊢
      by_cases hf : p.items ≤ r.cl.L.length
      · rw [if_pos hf]
        refine (put_full h3 (by simp) cost x hc' hf).mono ?_
        rintro e w' ⟨rfl, nq, rfl⟩
        exact ⟨rfl, same _ (ext_drewN _ _)⟩
      · rw [if_neg hf] at hpo ⊢
        refine (put_more h3 cost x hc' (by omega) (by omega) ⟨by omega, by omega⟩).mono ?_
        rintro v w' ⟨A', c', rfl, q1, z1, s1⟩
        refine ⟨rfl, ⟨h1, hpo, lb, mb, S1 ++ ⟨⟨r.cl.n, r.cl.cr, r.cl.L ++ [(cost, x)]⟩, r.e, r.c, A', c'⟩ :: S2, ?_, ?_, ?_⟩, s1.mono fun k _ hk => h5 k hk⟩
        · have e4 : (lenS s : Int) + 1 = (lenS (⟨R1 ++ ⟨r.cl.n, r.cl.cr, r.cl.L ++ [(cost, x)]⟩ :: R2, s.turn⟩ : St) : Nat) := by
            unfold lenS
            rw [hR']
            simp
            omega
          rw [e4] at q1
          exact q1
        · simp [e1, e2]
        · intro k hk
          rcases hk with hk | hk | hk | ⟨q, hq, hk⟩
          · exact .inl (h5 k (.inl hk))
          · exact .inl (h5 k (.inr (.inl hk)))
          · exact .inl (h5 k (.inr (.inr (.inl hk))))
          · rcases mem_mid.1 hq with rfl | hq
            · simp only at hk
              rcases hk with hk | hk | hk
              · exact .inl (h5 k (.inr (.inr (.inr ⟨r, by simp, .inl hk⟩))))
              · exact .inl (h5 k (.inr (.inr (.inr ⟨r, by simp, .inr (.inl hk)⟩))))
              · rcases z1 with z1 | ⟨b, z1, z2⟩
                · exact .inl (h5 k (.inr (.inr (.inr ⟨r, by simp, .inr (.inr (z1 ▸ hk))⟩))))
                · rw [z1] at hk
                  injection hk with hk
                  exact .inr (by omega)
            · exact .inl (h5 k (.inr (.inr (.inr ⟨q, mem_mid.2 (.inr hq), hk⟩))))
end
/-! ### SameInts -/
theorem drewN_two (w : World) (a b : Nat) : (w.drewN a).drewN b = w.drewN (a + b) := by
  unfold World.drewN
  simp [Nat.add_assoc]
def SameRel (w : World) (n : Nat) (l m : List Int) (i : Value) (wr : World) : Prop := ∃ k nq : Nat, k ≤ n ∧ i = .int .i64 k ∧ l.take k = m.take k ∧ wr = w.drewN nq
theorem rdI_at {w : World} {A : Option Addr} {c : Nat} {l : List Int} (h : RdG w 1 A l.length c (intsV l)) (h0 : 0 < l.length) : ∃ b o, A = some ⟨b, o, none⟩ ∧ b < w.heap.size ∧ ∀ k, k < l.length → w.cell? ⟨b, o + k, none⟩ = some (.int .i64 (l.getD k 0)) := by
  obtain ⟨b, o, hA, hb, hc⟩ := h.2.2.2 h0
  exact ⟨b, o, hA, hb, fun k hk => hc k _ (by simp [intsV, hk])⟩
set_option maxHeartbeats 1000000 in
set_option maxRecDepth 100000 in
theorem same_ints {w : World} {A B : Option Addr} {c d : Nat} {l m : List Int} (hl : RdG w 1 A l.length c (intsV l)) (hm : RdG w 1 B m.length d (intsV m)) :
    Calls Try.prog 17 #[.slice A l.length c, .slice B m.length d] w fun e w' => e = .returned (.bool (decide (l = m))) ∧ ∃ nq, w' = w.drewN nq := by
  have hl9 := hl.n_le
  have hm9 := hm.n_le
  by_cases hlen : l.length = m.length
  · obtain ⟨n, hn⟩ : ∃ n, l.length = n := ⟨_, rfl⟩
    rw [hn] at hlen hl9
    rcases Nat.eq_zero_or_pos n with h0 | h0
    · subst h0
      have e1 : l = [] := List.eq_nil_of_length_eq_zero hn
      have e2 : m = [] := List.eq_nil_of_length_eq_zero hlen.symm
      subst e1; subst e2
      clear hl hm hn hlen hl9 hm9
      simp only [List.length_nil]
      go_enter Try.func17, Try.ntmps17
      go_wp2_with fail
      go_loop [5] (fun i => i = .int .i64 0) (fun _ => 0)
      case atStart => rfl
      case round =>
        subst hrel
        go_wp2_with fail
        go_ret
        exact ⟨rfl, 0, rfl⟩
    · obtain ⟨b1, o1, hA, hb1, hc1⟩ := rdI_at hl (by omega)
      obtain ⟨b2, o2, hB, hb2, hc2⟩ := rdI_at hm (by omega)
      rw [hn] at hc1
      rw [← hlen] at hc2 hm9
      subst hA; subst hB
      have HC1 := hid hc1
      have HC2 := hid hc2
      have HN := hid hn
      have HLEN := hid hlen
      rw [hn, ← hlen]
      clear hl hm hc1 hc2 hn hlen
      go_enter Try.func17, Try.ntmps17
      go_wp2_with fail
      go_loopw [5] (fun i wr => SameRel w n l m i wr) (fun i _ => n - (intOf i).toNat)
      case atStart => exact ⟨0, 0, Nat.zero_le _, rfl, rfl, rfl⟩
      case round =>
        obtain ⟨k, n0, hk, rfl, ht, hw⟩ := hrel
        have HW := hid hw
        by_cases hlt : k < n
        · have i1 : (k : Int) < (n : Int) := by omega
          have f1 : wr.cell? ⟨b1, o1 + k, none⟩ = some (.int .i64 (l.getD k 0)) := by rw [hw]; exact HC1.out k hlt
          have f2 : wr.cell? ⟨b2, o2 + k, none⟩ = some (.int .i64 (m.getD k 0)) := by rw [hw]; exact HC2.out k hlt
          obtain ⟨x1, h1⟩ : ∃ x, l.getD k 0 = x := ⟨_, rfl⟩
          obtain ⟨x2, h2⟩ : ∃ x, m.getD k 0 = x := ⟨_, rfl⟩
          rw [h1] at f1
          rw [h2] at f2
          have T1 : l.take (k + 1) = l.take k ++ [x1] := by
            have hk' : k < l.length := by rw [HN.out]; exact hlt
            rw [List.take_succ_eq_append_getElem hk', ← h1]
            simp [List.getD, hk']
          have T2 : m.take (k + 1) = m.take k ++ [x2] := by
            have hk' : k < m.length := by rw [← HLEN.out]; exact hlt
            rw [List.take_succ_eq_append_getElem hk', ← h2]
            simp [List.getD, hk']
          have HT1 := hid T1
          have HT2 := hid T2
          have HT := hid ht
          have k1 : k < n := hlt
          by_cases hx : x1 = x2
          · have hb : (x1 != x2) = false := by simp [hx]
            have HX := hid hx
            clear T1 T2 ht h1 h2 hx hw
            go_wp2_with fail
            go_quiet (fail)
            go_wp2_with fail
            go_roundw
            case rel => exact ⟨k + 1, n0 + nq, by omega, by go_num, by rw [HT1.out, HT2.out, HT.out, HX.out], by rw [HW.out]; exact drewN_two _ _ _⟩
            case measure => simp [intOf]; omega
          · have hb : (x1 != x2) = true := by simp [hx]
            have HX := hid hx
            clear T1 T2 ht h1 h2 hx hw
            go_wp2_with fail
            go_quiet (fail)
            go_wp2_with fail
            go_ret
            refine ⟨?_, n0 + nq, by rw [HW.out]; exact drewN_two _ _ _⟩
            have hne : ¬ l = m := by
              intro e
              have h3 := HT1.out
              rw [e, HT2.out] at h3
              have := List.append_inj_right' h3 rfl
              simp at this
              exact HX.out this.symm
            simp [hne]
        · obtain rfl : k = n := by omega
          have he : l = m := by
            have h1 := ht
            rw [List.take_of_length_le (by rw [HN.out]; exact Nat.le_refl _), List.take_of_length_le (by rw [← HLEN.out]; exact Nat.le_refl _)] at h1
            exact h1
          have HE := hid he
          clear ht he hw
          go_wp2_with fail
          go_ret
          exact ⟨by simp [HE.out], _, HW.out⟩
  · have hne : ¬ l = m := fun e => hlen (by rw [e])
    have hb : ((l.length : Int) != (m.length : Int)) = true := by simp; omega
    obtain ⟨n1, h1⟩ : ∃ n, l.length = n := ⟨_, rfl⟩
    obtain ⟨n2, h2⟩ : ∃ n, m.length = n := ⟨_, rfl⟩
    rw [h1, h2] at hb ⊢
    have hd : decide (l = m) = false := by simp [hne]
    rw [hd]
    clear hl hm hlen h1 h2 hne hd hl9 hm9
    go_enter Try.func17, Try.ntmps17
    go_wp2_with fail
    go_ret
    exact ⟨rfl, 0, rfl⟩
end Go.Proofs.Ytkogagpahidenaa

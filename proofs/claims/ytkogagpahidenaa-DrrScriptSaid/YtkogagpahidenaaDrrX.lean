/- Layer 21: the document's scheduler as a whole: its state, and what each call makes of it. -/
import Derived.Test.YtkogagpahidenaaDrrWa
namespace Go.Proofs.Ytkogagpahidenaa
open Go.BK Go.BK.DR Go.RowKit Go.Maps
set_option linter.unusedVariables false
def ownsR (g : Nat) (A : Option Addr) (R : List Ln) (k : Nat) : Prop := k = g ∨ blk A = some k ∨ ∃ r ∈ R, blk r.A = some k
/-- The document's scheduler g is in the state s; its blocks are all U's. -/
def Rs (U : Nat → Prop) (w : World) (g : Nat) (p : Par) (s : St) : Prop :=
  p.ok ∧ s.ok p ∧ ∃ A c R, RfR w g p A c R ∧ OwnG isOne w 0 75 4 A R.length c (cellsN R) ∧ stN R = s ∧ okN R ∧ ∀ k, ownsR g A R k → U k
section
variable {U V : Nat → Prop} {w w' : World} {g c : Nat} {p : Par} {s : St} {A : Option Addr} {R R1 R2 : List Ln}
theorem owns_lt (h : RfR w g p A c R) (o : OwnG isOne w 0 75 4 A R.length c (cellsN R)) (k : Nat) (hk : ownsR g A R k) : k < w.heap.size := by
  rcases hk with rfl | hk | ⟨r, hr, hk⟩
  · exact h.top.lt
  · exact (o.lt k hk).2
  · exact (h.its r hr).lt k hk
theorem Rs.mono (h : Rs U w g p s) (hV : ∀ k, k < w.heap.size → U k → V k) : Rs V w g p s := by
  obtain ⟨h1, h2, A, c, R, h3, h4, h5, h6, h7⟩ := h
  exact ⟨h1, h2, A, c, R, h3, h4, h5, h6, fun k hk => hV k (owns_lt h3 h4 k hk) (h7 k hk)⟩
theorem Rs.shy (h : Rs U w g p s) (hs : Shy V w w') (hV : ∀ k, k < w.heap.size → U k → ¬ V k) : Rs U w' g p s := by
  obtain ⟨h1, h2, A, c, R, h3, h4, h5, h6, h7⟩ := h
  have no : ∀ k, ownsR g A R k → ¬ V k := fun k hk => hV k (owns_lt h3 h4 k hk) (h7 k hk)
  exact ⟨h1, h2, A, c, R, h3.shy hs (no g (.inl rfl)) (fun k hk => no k (.inr (.inl hk))) (fun r hr k hk => no k (.inr (.inr ⟨r, hr, hk⟩))), hs.ownG h4 fun k hk => no k (.inr (.inl hk)), h5, h6, h7⟩
theorem Rs.ext (h : Rs U w g p s) (hs : Ext w w') : Rs U w' g p s := h.shy (V := fun _ => False) (Shy.of_ext hs) fun _ _ _ h => h
theorem Rs.drewN (h : Rs U w g p s) (n : Nat) : Rs U (w.drewN n) g p s := h.ext (ext_drewN w n)
theorem mapN_split {R : List Ln} {R1 R2 : List Cl} {c : Cl} (h : R.map Ln.cl = R1 ++ c :: R2) : ∃ S1 r S2, R = S1 ++ r :: S2 ∧ S1.map Ln.cl = R1 ∧ r.cl = c ∧ S2.map Ln.cl = R2 := by
  rw [List.map_eq_append_iff] at h
  obtain ⟨S1, S, h1, h2, h3⟩ := h
  cases S with
  | nil => simp at h3
  | cons r S2 =>
    simp at h3
    exact ⟨S1, r, S2, h1, h2, h3.1, h3.2⟩
theorem ring_N (h : stN R = s) : s.ring = R.map Ln.cl ∧ s.turn = turnOf R := by subst h; exact ⟨rfl, rfl⟩
theorem r_new (a b c d : Int) (w : World) (h : (⟨a, b, c, d⟩ : Par).ok) : Calls Try.prog 20 #[.int .i64 a, .int .i64 b, .int .i64 c, .int .i64 d] w fun e w' => ∃ g, e = .returned (.tuple #[.pointer (some ⟨g, 0, none⟩), .int .i64 0]) ∧ Rs (fun k => w.heap.size ≤ k) w' g ⟨a, b, c, d⟩ ⟨[], false⟩ ∧ Ext w w' := by
  refine (rnew_ok ⟨a, b, c, d⟩ w h).mono ?_
  rintro e w' ⟨rfl, hr, hx⟩
  refine ⟨w.heap.size, rfl, ⟨h, ?_, none, 0, [], hr, OwnG.nil _ _ _ _ _, rfl, by simp [okN], fun k hk => ?_⟩, hx⟩
  · unfold Par.ok at h
    simp only at h
    exact ⟨by simp; omega, by simp, by simp, by simp [low], by simp⟩
  · rcases hk with rfl | hk | ⟨r, hr, _⟩
    · exact Nat.le_refl _
    · cases hk
    · cases hr
theorem len_N (h : stN R = s) : lenS s = sumN R := by subst h; simp [lenS, sumN, stN]; rfl
theorem r_len (h : Rs U w g p s) : Calls Try.prog 26 #[.pointer (some ⟨g, 0, none⟩)] w fun e w' => e = .returned (.int .i64 (lenS s)) ∧ w = w' := by
  obtain ⟨h1, h2, A, c, R, h3, h4, h5, h6, h7⟩ := h
  have hl := len_le h2 h1
  rw [len_N h5] at hl ⊢
  exact rlen_any h3 hl
theorem no_N (h : stN R = s) {a : Int} (hno : ∀ c ∈ s.ring, c.n ≠ a) : ∀ r ∈ R, r.cl.n ≠ a := by
  subst h
  exact fun r hr => hno r.cl (List.mem_map_of_mem hr)
theorem r_of (h : Rs U w g p s) (a : Int) : Calls Try.prog 27 #[.pointer (some ⟨g, 0, none⟩), .int .i64 a] w fun e w' => e = .returned (.int .i64 (ofS s a)) ∧ w = w' := by
  obtain ⟨h1, h2, A, c, R, h3, h4, h5, h6, h7⟩ := h
  rcases split_at s a with hno | ⟨R1, d, R2, hR, rfl⟩
  · have e0 : ofS s a = 0 := by unfold ofS; rw [find_none hno]; rfl
    rw [e0]
    exact rof_no h3 a (no_N h5 hno)
  · have hd := h2.2.2.1
    obtain ⟨e1, e2⟩ := ring_N h5
    rw [e1] at hR
    obtain ⟨S1, r, S2, rfl, f1, rfl, f2⟩ := mapN_split hR
    have hs : s = ⟨R1 ++ r.cl :: R2, s.turn⟩ := by rw [← hR, ← e1]
    rw [e1, hR] at hd
    have e0 : ofS s r.cl.n = r.cl.L.length := by
      unfold ofS
      rw [hs, find_some _ hd]
      rfl
    rw [e0]
    exact rof_yes h3 (fun q hq => (sep_at hd).1 q.cl (by rw [← f1]; exact List.mem_map_of_mem hq))
theorem r_clients (h : Rs U w g p s) : Calls Try.prog 28 #[.pointer (some ⟨g, 0, none⟩)] w fun e w' => ∃ A c, e = .returned (.slice A (clientsS s).length c) ∧ OwnG isI w' w.heap.size 3 1 A (clientsS s).length c (intsV (clientsS s)) ∧ Ext w w' := by
  obtain ⟨h1, h2, A, c, R, h3, h4, h5, h6, h7⟩ := h
  have e : clientsS s = R.map fun r => r.cl.n := by
    unfold clientsS
    rw [(ring_N h5).1, List.map_map]
    rfl
  have hl : R.length ≤ 1000000 := by
    have h8 := h2.1
    rw [(ring_N h5).1, List.length_map] at h8
    unfold Par.ok at h1
    omega
  rw [e, List.length_map]
  exact rclients_any h3 hl
theorem len_1024 (h1 : p.ok) (h2 : s.ok p) (h5 : stN R = s) : R.length ≤ 1024 := by
  have h8 := h2.1
  rw [(ring_N h5).1, List.length_map] at h8
  unfold Par.ok at h1
  omega
theorem r_peek (h : Rs U w g p s) : Calls Try.prog 23 #[.pointer (some ⟨g, 0, none⟩)] w fun e w' => e = .returned (tellV (peekS p s)) ∧ Ext w w' := by
  obtain ⟨h1, h2, A, c, R, h3, h4, h5, h6, h7⟩ := h
  have hl := len_1024 h1 h2 h5
  subst h5
  exact rpeek_any h3 h1 h2 h6 hl
theorem r_next (h : Rs U w g p s) : Calls Try.prog 21 #[.pointer (some ⟨g, 0, none⟩)] w fun e w' => e = .returned (tellV (nextS p s).2) ∧ Rs (More U w) w' g p (nextS p s).1 ∧ Shy U w w' := by
  have hh := h
  obtain ⟨h1, h2, A, c, R, h3, h4, h5, h6, h7⟩ := h
  have hl := len_1024 h1 h2 h5
  have hn := (next_ok h1 h2).1
  by_cases hne : R = []
  · subst hne
    subst h5
    refine (rnext_nil h3).mono ?_
    rintro e w' ⟨rfl, rfl⟩
    exact ⟨rfl, hh.mono fun k _ hk => .inl hk, Shy.refl _⟩
  · subst h5
    refine (rnext_any h3 h1 h2 h6 hne hl).mono ?_
    rintro e w' ⟨rfl, A', c', R', q1, q2, q3, q4, q5, q6⟩
    refine ⟨rfl, ⟨h1, hn, A', c', R', q1, q2.mono (Nat.zero_le _), q3, q4, fun k hk => ?_⟩, q6.mono fun k _ hk => h7 k (.inl hk)⟩
    rcases hk with rfl | hk | ⟨r, hr, hk⟩
    · exact .inl (h7 _ (.inl rfl))
    · exact .inr (q2.lt k hk).1
    · obtain ⟨y, hy, e⟩ := q5 r hr
      exact .inl (h7 k (.inr (.inr ⟨y, hy, e ▸ hk⟩)))
theorem turn_cut (h : okN (R1 ++ R2)) : turnOf (R1 ++ R2) = if R1 = [] then turnOf R2 else turnOf R1 := by
  cases R1 <;> simp [turnOf]
theorem r_drop (h : Rs U w g p s) (a : Int) : Calls Try.prog 24 #[.pointer (some ⟨g, 0, none⟩), .int .i64 a] w fun e w' => ∃ A c, e = .returned (.slice A (dropS s a).2.length c) ∧ OwnG isI w' w.heap.size 3 1 A (dropS s a).2.length c (intsV (dropS s a).2) ∧ Rs (More U w) w' g p (dropS s a).1 ∧ Shy U w w' := by
  have hh := h
  obtain ⟨h1, h2, A, c, R, h3, h4, h5, h6, h7⟩ := h
  have hl := len_1024 h1 h2 h5
  have hdo := drop_ok (n := a) h2
  rcases split_at s a with hno | ⟨R1, d, R2, hR, rfl⟩
  · rw [drop_none hno]
    refine (rdrop_no h3 a (no_N h5 hno)).mono ?_
    rintro e w' ⟨rfl, rfl⟩
    exact ⟨none, 0, rfl, OwnG.nil _ _ _ _ _, hh.mono fun k _ hk => .inl hk, Shy.refl _⟩
  · have hd := h2.2.2.1
    obtain ⟨e1, e2⟩ := ring_N h5
    rw [e1] at hR
    obtain ⟨S1, r, S2, rfl, f1, rfl, f2⟩ := mapN_split hR
    have hs : s = ⟨R1 ++ r.cl :: R2, s.turn⟩ := by rw [← hR, ← e1]
    have hmem : r.cl ∈ s.ring := by rw [e1]; exact List.mem_map_of_mem (by simp)
    have hok := h2.2.1 r.cl hmem
    have hL : r.cl.L ≠ [] := hok.1
    have hl6 : r.cl.L.length ≤ 64 := by
      have := hok.2.1
      unfold Par.ok at h1
      omega
    rw [e1, hR] at hd
    have e3 : dropS s r.cl.n = (⟨R1 ++ R2, if R1 = [] then false else s.turn⟩, r.cl.L.map Prod.snd) := by
      rw [hs]
      exact drop_there hd
    rw [e3] at hdo ⊢
    refine (rdrop_yes h3 (fun q hq => (sep_at hd).1 q.cl (by rw [← f1]; exact List.mem_map_of_mem hq)) hL hl hl6).mono ?_
    rintro e w' ⟨B, d, rfl, o1, A', c', q1, q2, q3⟩
    simp only [List.length_map]
    refine ⟨B, d, rfl, o1, ⟨h1, hdo, A', c', S1 ++ S2, q1, q2.mono (Nat.zero_le _), ?_, ?_, fun k hk => ?_⟩, q3.mono fun k _ hk => h7 k (.inl hk)⟩
    · unfold stN
      rw [List.map_append, f1, f2, e2]
      congr 1
      cases S1 with
      | nil =>
        simp at f1
        subst f1
        simp only [List.nil_append, if_true]
        cases S2 with
        | nil => rfl
        | cons q S2 => exact h6 q (by simp)
      | cons q S1 =>
        simp at f1
        rw [if_neg (by rw [← f1]; simp)]
        rfl
    · intro q hq
      refine h6 q ?_
      cases S1 with
      | nil =>
        simp at hq ⊢
        exact List.mem_of_mem_tail hq
      | cons x S1 =>
        simp at hq ⊢
        rcases hq with hq | hq
        · exact .inl hq
        · exact .inr (.inr hq)
    · rcases hk with rfl | hk | ⟨q, hq, hk⟩
      · exact .inl (h7 _ (.inl rfl))
      · exact .inr (q2.lt k hk).1
      · exact .inl (h7 k (.inr (.inr ⟨q, by simp at hq ⊢; rcases hq with hq | hq; exact .inl hq; exact .inr (.inr hq), hk⟩)))
theorem r_put (h : Rs U w g p s) (a cost x : Int) : Calls Try.prog 25 #[.pointer (some ⟨g, 0, none⟩), .int .i64 a, .int .i64 cost, .int .i64 x] w fun e w' => e = .returned (.int .i64 (putS p s a cost x).2) ∧ Rs (More U w) w' g p (putS p s a cost x).1 ∧ Shy U w w' := by
  have hh := h
  obtain ⟨h1, h2, A, c, R, h3, h4, h5, h6, h7⟩ := h
  have hl := len_1024 h1 h2 h5
  have hpo := put_ok (n := a) (cost := cost) (x := x) h1 h2
  have hp := h1
  unfold Par.ok at hp
  obtain ⟨e1, e2⟩ := ring_N h5
  have same : ∀ w', Ext w w' → Rs (More U w) w' g p s ∧ Shy U w w' := fun w' hx => ⟨(hh.ext hx).mono fun k _ hk => .inl hk, Shy.of_ext hx⟩
  have hl2 : s.ring.length = R.length := by rw [e1]; simp
  by_cases hc : cost < 1 ∨ p.most < cost
  · have e0 : putS p s a cost x = (s, 5) := by unfold putS; rw [if_pos hc]
    rw [e0]
    refine (rput_bad h3 a cost x (by omega)).mono ?_
    rintro e w' ⟨rfl, rfl⟩
    exact ⟨rfl, same w (Below.refl _ _)⟩
  · have hc' : 1 ≤ cost ∧ cost ≤ p.most := by omega
    rcases split_at s a with hno | ⟨R1, d, R2, hR, rfl⟩
    · rw [put_new hc' hno] at hpo ⊢
      by_cases hf : p.clients ≤ s.ring.length
      · rw [if_pos hf]
        refine (rput_many h3 a cost x (no_N h5 hno) hc' (by omega)).mono ?_
        rintro e w' ⟨rfl, nq, rfl⟩
        exact ⟨rfl, same _ (ext_drewN _ _)⟩
      · rw [if_neg hf] at hpo ⊢
        refine (rput_first h3 a cost x (no_N h5 hno) hc' (by omega) (by omega)).mono ?_
        rintro e w' ⟨rfl, ib, hib, A', c', q1, q2, q3⟩
        refine ⟨rfl, ⟨h1, hpo, A', c', _, q1, q2.mono (Nat.zero_le _), ?_, ?_, fun k hk => ?_⟩, q3.mono fun k _ hk => h7 k (.inl hk)⟩
        · unfold stN
          rw [List.map_append, ← e1, e2]
          congr 1
          cases R <;> rfl
        · intro q hq
          cases R with
          | nil => simp at hq
          | cons y R =>
            simp at hq
            rcases hq with hq | rfl
            · exact h6 q (by simpa using hq)
            · rfl
        · rcases hk with rfl | hk | ⟨q, hq, hk⟩
          · exact .inl (h7 _ (.inl rfl))
          · exact .inr (q2.lt k hk).1
          · rw [List.mem_append, List.mem_singleton] at hq
            rcases hq with hq | rfl
            · exact .inl (h7 k (.inr (.inr ⟨q, hq, hk⟩)))
            · simp at hk
              exact .inr (by omega)
    · have hd := h2.2.2.1
      rw [e1] at hR
      obtain ⟨S1, r, S2, rfl, f1, rfl, f2⟩ := mapN_split hR
      have hs : s = ⟨R1 ++ r.cl :: R2, s.turn⟩ := by rw [← hR, ← e1]
      rw [e1, hR] at hd
      have hno := fun q (hq : q ∈ S1) => (sep_at hd).1 q.cl (by rw [← f1]; exact List.mem_map_of_mem hq)
      have e3 := put_there (p := p) (t := s.turn) (x := x) hc' hd
      rw [← hs] at e3
      rw [e3] at hpo ⊢
      by_cases hf : p.items ≤ r.cl.L.length
      · rw [if_pos hf]
        refine (rput_full h3 hno cost x hc' hf).mono ?_
        rintro e w' ⟨rfl, nq, rfl⟩
        exact ⟨rfl, same _ (ext_drewN _ _)⟩
      · rw [if_neg hf] at hpo ⊢
        refine (rput_more h3 h4 hno cost x hc' (by omega) (by omega)).mono ?_
        rintro e w' ⟨rfl, A', c', q0, q1, q2, q3⟩
        refine ⟨rfl, ⟨h1, hpo, A, c, _, q1, q2, ?_, ?_, fun k hk => ?_⟩, q3.mono fun k _ hk => h7 k (.inr (.inl hk))⟩
        · unfold stN
          rw [List.map_append, List.map_cons, f1, f2, e2]
          congr 1
          cases S1 <;> rfl
        · intro q hq
          cases S1 with
          | nil => exact h6 q (by simpa using hq)
          | cons y S1 =>
            simp at hq
            rcases hq with hq | rfl | hq
            · exact h6 q (by simp [hq])
            · exact h6 r (by simp)
            · exact h6 q (by simp [hq])
        · rcases hk with rfl | hk | ⟨q, hq, hk⟩
          · exact .inl (h7 _ (.inl rfl))
          · exact .inl (h7 k (.inr (.inl hk)))
          · rw [List.mem_append, List.mem_cons] at hq
            rcases hq with hq | rfl | hq
            · exact .inl (h7 k (.inr (.inr ⟨q, by simp [hq], hk⟩)))
            · exact .inr (q0 k hk)
            · exact .inl (h7 k (.inr (.inr ⟨q, by simp [hq], hk⟩)))
end
end Go.Proofs.Ytkogagpahidenaa

/- DrrScript: both schedulers side by side. -/
import Derived.Test.YtkogagpahidenaaDrrX
import Derived.Test.YtkogagpahidenaaDrrJ
namespace Go.Proofs.Ytkogagpahidenaa
open Go.BK Go.BK.DR Go.RowKit Go.Maps
set_option linter.unusedVariables false
/-- The program's scheduler in the state s, the document's in the state t; no block is both's, none is older than base. -/
def Duo (base : Nat) (w : World) (p : Par) (s t : St) (g h : Nat) : Prop :=
  base ≤ w.heap.size ∧ ∃ U V : Nat → Prop, Qs U w g p s ∧ Rs V w h p t ∧ (∀ k, U k → ¬ V k) ∧ (∀ k, U k → base ≤ k) ∧ (∀ k, V k → base ≤ k)
section
variable {base : Nat} {w w' : World} {p : Par} {s t : St} {g h : Nat}
theorem Duo.ext (d : Duo base w p s t g h) (x : Ext w w') : Duo base w' p s t g h := by
  obtain ⟨hb, U, V, q, r, h1, h2, h3⟩ := d
  exact ⟨Nat.le_trans hb x.size, U, V, q.ext x, r.ext x, h1, h2, h3⟩
theorem Duo.q_step {s' : St} {U V : Nat → Prop} (hb : base ≤ w.heap.size) (q' : Qs (More U w) w' g p s') (r : Rs V w h p t) (hs : Shy U w w') (h1 : ∀ k, U k → ¬ V k) (h2 : ∀ k, U k → base ≤ k) (h3 : ∀ k, V k → base ≤ k) :
    Duo base w' p s' t g h ∧ Below base w w' := by
  have r1 : Rs (fun k => V k ∧ k < w.heap.size) w h p t := r.mono fun k hk hv => ⟨hv, hk⟩
  refine ⟨⟨Nat.le_trans hb hs.size, More U w, _, q', r1.shy hs (fun k _ hv hu => h1 k hu hv.1), fun k hu hv => ?_, fun k hu => ?_, fun k hv => h3 k hv.1⟩, hs.below hb fun k hk hu => ?_⟩
  · rcases hu with hu | hu
    · exact h1 k hu hv.1
    · exact absurd hv.2 (by omega)
  · rcases hu with hu | hu
    · exact h2 k hu
    · omega
  · have := h2 k hu
    omega
theorem Duo.r_step {t' : St} {U V : Nat → Prop} (hb : base ≤ w.heap.size) (q : Qs U w g p s) (r' : Rs (More V w) w' h p t') (hs : Shy V w w') (h1 : ∀ k, U k → ¬ V k) (h2 : ∀ k, U k → base ≤ k) (h3 : ∀ k, V k → base ≤ k) :
    Duo base w' p s t' g h ∧ Below base w w' := by
  have q1 : Qs (fun k => U k ∧ k < w.heap.size) w g p s := q.mono fun k hk hv => ⟨hv, hk⟩
  refine ⟨⟨Nat.le_trans hb hs.size, _, More V w, q1.shy hs (fun k _ hu hv => h1 k hu.1 hv), r', fun k hu hv => ?_, fun k hu => h2 k hu.1, fun k hv => ?_⟩, hs.below hb fun k hk hu => ?_⟩
  · rcases hv with hv | hv
    · exact h1 k hu.1 hv
    · exact absurd hu.2 (by omega)
  · rcases hv with hv | hv
    · exact h3 k hv
    · omega
  · have := h3 k hu
    omega
theorem duo_new {a b c d : Int} {w1 w2 : World} (q : Qs (fun k => w.heap.size ≤ k) w1 g ⟨a, b, c, d⟩ ⟨[], false⟩) (x : Ext w w1) (r : Rs (fun k => w1.heap.size ≤ k) w2 h ⟨a, b, c, d⟩ ⟨[], false⟩) (x2 : Ext w1 w2) :
    Duo w.heap.size w2 ⟨a, b, c, d⟩ ⟨[], false⟩ ⟨[], false⟩ g h :=
  ⟨(ext_trans x x2).size, fun k => w.heap.size ≤ k ∧ k < w1.heap.size, _, (q.mono fun k hk hu => ⟨hu, hk⟩).ext x2, r, fun k hu hv => absurd hu.2 (by omega), fun k hu => hu.1, fun k hv => Nat.le_trans x.size hv⟩
theorem d_qnext (d : Duo base w p s t g h) : Calls Try.prog 13 #[.pointer (some ⟨g, 0, none⟩)] w fun e w' => e = .returned (tellV (nextS p s).2) ∧ Duo base w' p (nextS p s).1 t g h ∧ Below base w w' := by
  obtain ⟨hb, U, V, q, r, h1, h2, h3⟩ := d
  refine (q_next q).mono ?_
  rintro e w' ⟨rfl, q', hs⟩
  exact ⟨rfl, Duo.q_step hb q' r hs h1 h2 h3⟩
theorem d_rnext (d : Duo base w p s t g h) : Calls Try.prog 21 #[.pointer (some ⟨h, 0, none⟩)] w fun e w' => e = .returned (tellV (nextS p t).2) ∧ Duo base w' p s (nextS p t).1 g h ∧ Below base w w' := by
  obtain ⟨hb, U, V, q, r, h1, h2, h3⟩ := d
  refine (r_next r).mono ?_
  rintro e w' ⟨rfl, r', hs⟩
  exact ⟨rfl, Duo.r_step hb q r' hs h1 h2 h3⟩
theorem blk_type {b : Nat} {t u : TypeId} {cs ds : Array Value} (h1 : Blk w b t cs) (h2 : Blk w b u ds) : t = u := by
  unfold Blk at h1 h2
  rw [h1] at h2
  injection h2 with h2
  injection h2 with _ h2
theorem rs_no_int {V : Nat → Prop} {b : Nat} {cs : Array Value} (r : Rs V w h p t) (hbk : Blk w b 3 cs) : Rs (fun k => V k ∧ k ≠ b) w h p t := by
  obtain ⟨g1, g2, A, c, R, g3, g4, g5, g6, g7⟩ := r
  refine ⟨g1, g2, A, c, R, g3, g4, g5, g6, fun k hk => ⟨g7 k hk, ?_⟩⟩
  rintro rfl
  rcases hk with rfl | hk | ⟨y, hy, hk⟩
  · exact absurd (blk_type g3.top hbk) (by decide)
  · exact own_ne hbk g4 (by decide) hk
  · exact (g3.its y hy).blk_ne hbk (by decide) hk
theorem qs_no_int {U : Nat → Prop} {b : Nat} {cs : Array Value} (q : Qs U w g p s) (hbk : Blk w b 3 cs) : Qs (fun k => U k ∧ k ≠ b) w g p s := by
  obtain ⟨g1, g2, lb, mb, R, g3, g4, g5⟩ := q
  refine ⟨g1, g2, lb, mb, R, g3, g4, fun k hk => ⟨g5 k hk, ?_⟩⟩
  rintro rfl
  rcases hk with rfl | rfl | rfl | ⟨y, hy, rfl | rfl | hk⟩
  · exact absurd (blk_type g3.top hbk) (by decide)
  · exact absurd (blk_type g3.ring.1 hbk) (by decide)
  · exact blk_ne_map hbk g3.map rfl
  · obtain ⟨_, _, he⟩ := g3.elt hy
    exact absurd (blk_type he hbk) (by decide)
  · exact absurd (blk_type (g3.cl y hy) hbk) (by decide)
  · exact (g3.own y hy).blk_ne hbk (by decide) hk
theorem rs_no_act {V : Nat → Prop} {b : Nat} {cs : Array Value} (r : Rs V w h p t) (hbk : Blk w b 37 cs) : Rs (fun k => V k ∧ k ≠ b) w h p t := by
  obtain ⟨g1, g2, A, c, R, g3, g4, g5, g6, g7⟩ := r
  refine ⟨g1, g2, A, c, R, g3, g4, g5, g6, fun k hk => ⟨g7 k hk, ?_⟩⟩
  rintro rfl
  rcases hk with rfl | hk | ⟨y, hy, hk⟩
  · exact absurd (blk_type g3.top hbk) (by decide)
  · exact own_ne hbk g4 (by decide) hk
  · exact (g3.its y hy).blk_ne hbk (by decide) hk
theorem qs_no_act {U : Nat → Prop} {b : Nat} {cs : Array Value} (q : Qs U w g p s) (hbk : Blk w b 37 cs) : Qs (fun k => U k ∧ k ≠ b) w g p s := by
  obtain ⟨g1, g2, lb, mb, R, g3, g4, g5⟩ := q
  refine ⟨g1, g2, lb, mb, R, g3, g4, fun k hk => ⟨g5 k hk, ?_⟩⟩
  rintro rfl
  rcases hk with rfl | rfl | rfl | ⟨y, hy, rfl | rfl | hk⟩
  · exact absurd (blk_type g3.top hbk) (by decide)
  · exact absurd (blk_type g3.ring.1 hbk) (by decide)
  · exact blk_ne_map hbk g3.map rfl
  · obtain ⟨_, _, he⟩ := g3.elt hy
    exact absurd (blk_type he hbk) (by decide)
  · exact absurd (blk_type (g3.cl y hy) hbk) (by decide)
  · exact (g3.own y hy).blk_ne hbk (by decide) hk
theorem d_qput {fb : Nat} {cs : Array Value} (d : Duo base w p s t g h) (hbk : Blk w fb 37 cs) (a cost x : Int) (ha : wfI a) : Calls Try.prog 12 #[.pointer (some ⟨g, 0, none⟩), .int .i64 a, .int .i64 cost, .int .i64 x] w fun e w' => e = .returned (.int .i64 (putS p s a cost x).2) ∧ Duo base w' p (putS p s a cost x).1 t g h ∧ Below base w w' ∧ Blk w' fb 37 cs := by
  obtain ⟨hb, U, V, q, r, h1, h2, h3⟩ := d
  refine (q_put (qs_no_act q hbk) a cost x ha).mono ?_
  rintro e w' ⟨rfl, q', hs⟩
  obtain ⟨d', b'⟩ := Duo.q_step hb q' r hs (fun k hu => h1 k hu.1) (fun k hu => h2 k hu.1) h3
  exact ⟨rfl, d', b', hbk.shy hs fun e => e.2 rfl⟩
theorem d_rput {fb : Nat} {cs : Array Value} (d : Duo base w p s t g h) (hbk : Blk w fb 37 cs) (a cost x : Int) : Calls Try.prog 25 #[.pointer (some ⟨h, 0, none⟩), .int .i64 a, .int .i64 cost, .int .i64 x] w fun e w' => e = .returned (.int .i64 (putS p t a cost x).2) ∧ Duo base w' p s (putS p t a cost x).1 g h ∧ Below base w w' ∧ Blk w' fb 37 cs := by
  obtain ⟨hb, U, V, q, r, h1, h2, h3⟩ := d
  refine (r_put (rs_no_act r hbk) a cost x).mono ?_
  rintro e w' ⟨rfl, r', hs⟩
  obtain ⟨d', b'⟩ := Duo.r_step hb q r' hs (fun k hu hv => h1 k hu hv.1) h2 (fun k hu => h3 k hu.1)
  exact ⟨rfl, d', b', hbk.shy hs fun e => e.2 rfl⟩
/-- What Drop has told, a slice of the caller's own. -/
def DropD (base : Nat) (w w' : World) (p : Par) (s t : St) (g h : Nat) (l : List Int) (e : Ending) : Prop :=
  ∃ A c, e = .returned (.slice A l.length c) ∧ OwnG isI w' w.heap.size 3 1 A l.length c (intsV l) ∧ Duo base w' p s t g h ∧ Below base w w'
theorem d_qdrop {fb : Nat} {cs : Array Value} (d : Duo base w p s t g h) (hbk : Blk w fb 37 cs) (a : Int) (ha : wfI a) : Calls Try.prog 18 #[.pointer (some ⟨g, 0, none⟩), .int .i64 a] w fun e w' => DropD base w w' p (dropS s a).1 t g h (dropS s a).2 e ∧ Blk w' fb 37 cs := by
  obtain ⟨hb, U, V, q, r, h1, h2, h3⟩ := d
  refine (q_drop (qs_no_act q hbk) a ha).mono ?_
  rintro e w' ⟨A, c, rfl, o, q', hs⟩
  exact ⟨⟨A, c, rfl, o, Duo.q_step hb q' r hs (fun k hu => h1 k hu.1) (fun k hu => h2 k hu.1) h3⟩, hbk.shy hs fun e => e.2 rfl⟩
theorem d_rdrop {b0 n0 c0 : Nat} {A0 : Option Addr} {xs : List Value} (d : Duo base w p s t g h) (o : OwnG isI w b0 3 1 A0 n0 c0 xs) (a : Int) :
    Calls Try.prog 24 #[.pointer (some ⟨h, 0, none⟩), .int .i64 a] w fun e w' => DropD base w w' p s (dropS t a).1 g h (dropS t a).2 e ∧ OwnG isI w' b0 3 1 A0 n0 c0 xs := by
  obtain ⟨hb, U, V, q, r, h1, h2, h3⟩ := d
  have key : ∀ V' : Nat → Prop, Rs V' w h p t → (∀ k, V' k → V k) → (∀ k, blk A0 = some k → ¬ V' k) → Calls Try.prog 24 #[.pointer (some ⟨h, 0, none⟩), .int .i64 a] w fun e w' => DropD base w w' p s (dropS t a).1 g h (dropS t a).2 e ∧ OwnG isI w' b0 3 1 A0 n0 c0 xs := by
    intro V' r hV hA
    refine (r_drop r a).mono ?_
    rintro e w' ⟨B, c, rfl, o2, r', hs⟩
    exact ⟨⟨B, c, rfl, o2, Duo.r_step hb q r' hs (fun k hu hv => h1 k hu (hV k hv)) h2 (fun k hv => h3 k (hV k hv))⟩, hs.ownG o hA⟩
  cases A0 with
  | none => exact key V r (fun _ => id) (fun k hk => by cases hk)
  | some ad =>
    obtain ⟨b, off, nn⟩ := ad
    have hbk : ∃ cs, Blk w b 3 cs := by
      rcases o with ⟨h, _⟩ | ⟨g', full, hA, _, hg, _⟩
      · cases h
      · injection hA with hA; injection hA with hA; subst hA
        exact ⟨_, hg⟩
    obtain ⟨cs, hbk⟩ := hbk
    refine key _ (rs_no_int r hbk) (fun _ h => h.1) (fun k hk e => ?_)
    simp at hk
    exact e.2 hk.symm
/-- The slice that was told is written over. -/
theorem Duo.stamp {b0 n0 c0 : Nat} {A0 : Option Addr} {xs : List Value} (d : Duo base w p s t g h) (o : OwnG isI w b0 3 1 A0 n0 c0 xs) (hs : Shy (fun k => blk A0 = some k) w w') : Duo base w' p s t g h := by
  obtain ⟨hb, U, V, q, r, h1, h2, h3⟩ := d
  cases A0 with
  | none => exact ⟨Nat.le_trans hb hs.size, U, V, q.shy hs (fun k _ _ e => by cases e), r.shy hs (fun k _ _ e => by cases e), h1, h2, h3⟩
  | some ad =>
    obtain ⟨b, off, nn⟩ := ad
    have hbk : ∃ cs, Blk w b 3 cs := by
      rcases o with ⟨h, _⟩ | ⟨g', full, hA, _, hg, _⟩
      · cases h
      · injection hA with hA; injection hA with hA; subst hA
        exact ⟨_, hg⟩
    obtain ⟨cs, hbk⟩ := hbk
    exact ⟨Nat.le_trans hb hs.size, _, _, (qs_no_int q hbk).shy hs (fun k _ hu e => by simp at e; exact hu.2 e.symm), (rs_no_int r hbk).shy hs (fun k _ hu e => by simp at e; exact hu.2 e.symm), fun k hu hv => h1 k hu.1 hv.1, fun k hu => h2 k hu.1, fun k hv => h3 k hv.1⟩
theorem d_qlen (d : Duo base w p s t g h) : Calls Try.prog 19 #[.pointer (some ⟨g, 0, none⟩)] w fun e w' => e = .returned (.int .i64 (lenS s)) ∧ w = w' := by
  obtain ⟨hb, U, V, q, r, h1, h2, h3⟩ := d
  exact q_len q
theorem d_rlen (d : Duo base w p s t g h) : Calls Try.prog 26 #[.pointer (some ⟨h, 0, none⟩)] w fun e w' => e = .returned (.int .i64 (lenS t)) ∧ w = w' := by
  obtain ⟨hb, U, V, q, r, h1, h2, h3⟩ := d
  exact r_len r
theorem d_qof (d : Duo base w p s t g h) (a : Int) (ha : wfI a) : Calls Try.prog 14 #[.pointer (some ⟨g, 0, none⟩), .int .i64 a] w fun e w' => e = .returned (.int .i64 (ofS s a)) ∧ w = w' := by
  obtain ⟨hb, U, V, q, r, h1, h2, h3⟩ := d
  exact q_of q a ha
theorem d_rof (d : Duo base w p s t g h) (a : Int) : Calls Try.prog 27 #[.pointer (some ⟨h, 0, none⟩), .int .i64 a] w fun e w' => e = .returned (.int .i64 (ofS t a)) ∧ w = w' := by
  obtain ⟨hb, U, V, q, r, h1, h2, h3⟩ := d
  exact r_of r a
theorem d_qpeek (d : Duo base w p s t g h) : Calls Try.prog 22 #[.pointer (some ⟨g, 0, none⟩)] w fun e w' => e = .returned (tellV (peekS p s)) ∧ Ext w w' := by
  obtain ⟨hb, U, V, q, r, h1, h2, h3⟩ := d
  exact q_peek q
theorem d_rpeek (d : Duo base w p s t g h) : Calls Try.prog 23 #[.pointer (some ⟨h, 0, none⟩)] w fun e w' => e = .returned (tellV (peekS p t)) ∧ Ext w w' := by
  obtain ⟨hb, U, V, q, r, h1, h2, h3⟩ := d
  exact r_peek r
/-- What Clients has told. -/
def CliD (w w' : World) (l : List Int) (e : Ending) : Prop := ∃ A c, e = .returned (.slice A l.length c) ∧ RdG w' 1 A l.length c (intsV l) ∧ Ext w w'
theorem d_qcli (d : Duo base w p s t g h) : Calls Try.prog 15 #[.pointer (some ⟨g, 0, none⟩)] w fun e w' => CliD w w' (clientsS s) e := by
  obtain ⟨hb, U, V, q, r, h1, h2, h3⟩ := d
  refine (q_clients q).mono ?_
  rintro e w' ⟨A, c, rfl, o, x⟩
  exact ⟨A, c, rfl, o.rd, x⟩
theorem d_rcli (d : Duo base w p s t g h) : Calls Try.prog 28 #[.pointer (some ⟨h, 0, none⟩)] w fun e w' => CliD w w' (clientsS t) e := by
  obtain ⟨hb, U, V, q, r, h1, h2, h3⟩ := d
  refine (r_clients r).mono ?_
  rintro e w' ⟨A, c, rfl, o, x⟩
  exact ⟨A, c, rfl, o.rd, x⟩
end
end Go.Proofs.Ytkogagpahidenaa

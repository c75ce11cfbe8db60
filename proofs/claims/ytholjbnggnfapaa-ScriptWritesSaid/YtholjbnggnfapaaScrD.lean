/- Layer 29: the program's event: one field after the other. -/
import Derived.Test.YtholjbnggnfapaaScrC
import Derived.Deep.RegionLaw
import Derived.Deep.RegionHeld3
import Derived.Test.YtholjbnggnfapaaKitE
import Derived.Deep.DeepCutAuto
namespace Go.Proofs.Ytholjbnggnfapaa
open Go.BK Go.BK.SC Go.RowKit Go.Maps
set_option linter.unusedVariables false
set_option linter.unusedSimpArgs false
theorem info_parts {o : Option TypeInfo} {z : Option Value} {s b : Nat} (h : o.map (fun i => (i.zero, i.size, i.bytes)) = some (z, s, b)) : ∃ i, o = some i ∧ i.zero = z ∧ i.size = s ∧ i.bytes = b := by
  cases o with
  | none => cases h
  | some i =>
    simp only [Option.map_some, Option.some.injEq, Prod.mk.injEq] at h
    exact ⟨i, rfl, h.1, h.2.1, h.2.2⟩
/-- A reader that has l left. -/
def RL (w : World) (ra rb : Nat) (A : Option Addr) (c : Nat) (b l : List UInt8) : Prop := ∃ i, Rdr w ra rb A c b i ∧ l = b.drop i
section
variable {w w' : World} {ra rb c g : Nat} {A : Option Addr} {b l : List UInt8}
theorem RL.shy {U : Nat → Prop} (h : RL w ra rb A c b l) (hs : Shy U w w') (h1 : ¬ U ra) (h2 : ¬ U rb) (h3 : 0 < b.length → ∀ k, blk A = some k → ¬ U k) : RL w' ra rb A c b l := by
  obtain ⟨i, hi, e⟩ := h
  exact ⟨i, hi.shy hs h1 h2 h3, e⟩
theorem RL.ext (h : RL w ra rb A c b l) (x : Ext w w') : RL w' ra rb A c b l := h.shy (U := fun _ => False) (Shy.of_ext x) id id fun _ _ _ => id
theorem RL.lt (h : RL w ra rb A c b l) : ra < w.heap.size ∧ rb < w.heap.size := by
  obtain ⟨i, hi, e⟩ := h
  exact ⟨hi.at_.lt, hi.bx.lt⟩
theorem next_l (h : RL w ra rb A c b l) (size : Nat) (hsz : size ≤ 4) : Calls Try.prog 35 #[.int .i64 size, .pointer (some ⟨ra, 0, none⟩), .pointer (some ⟨rb, 0, none⟩)] w fun e w' =>
    e = .returned (.int .i64 (num size l : Nat)) ∧ RL w' ra rb A c b (l.drop size) ∧ Shy (fun k => k = ra) w w' := by
  obtain ⟨i, hi, rfl⟩ := h
  refine (next_in hi size hsz).mono ?_
  rintro e w' ⟨rfl, h, s⟩
  refine ⟨rfl, ⟨_, h, ?_⟩, s⟩
  rw [List.drop_drop]
  rcases Nat.le_total (i + size) b.length with hle | hle
  · rw [Nat.min_eq_left hle]
  · rw [Nat.min_eq_right hle, List.drop_of_length_le hle, List.drop_of_length_le (Nat.le_refl _)]
theorem left_l (h : RL w ra rb A c b l) : Calls Try.prog 36 #[.pointer (some ⟨ra, 0, none⟩), .pointer (some ⟨rb, 0, none⟩)] w fun e w' => e = .returned (.bool (decide (l ≠ []))) ∧ w = w' := by
  obtain ⟨i, hi, rfl⟩ := h
  have e : decide (b.drop i ≠ []) = decide (i < b.length) := by
    rw [decide_eq_decide]
    rw [ne_eq, List.drop_eq_nil_iff]
    omega
  rw [e]
  exact left_in hi
def cellsE (e : Ev) (B : Option Addr) (d : Nat) : Array Value := #[.int .i64 e.kind, .int .i64 e.sort, .int .i64 e.who, .int .i64 e.port, .int .i64 e.conn, .int .i64 e.n, .slice B e.b.length d]
/-- The event in block g; its bytes are the call's own. -/
def EvB (w : World) (g base : Nat) (e : Ev) : Prop := ∃ B d, Blk w g 34 (cellsE e B d) ∧ Own w base 5 B d e.b
theorem EvB.shy {U : Nat → Prop} {base : Nat} {e : Ev} (h : EvB w g base e) (hs : Shy U w w') (h1 : ¬ U g) (h2 : ∀ k, base ≤ k → k < w.heap.size → ¬ U k) : EvB w' g base e := by
  obtain ⟨B, d, hb, ho⟩ := h
  exact ⟨B, d, hb.shy hs h1, hs.ownG ho fun k hk => h2 k (OwnG.lt ho k hk).1 (OwnG.lt ho k hk).2⟩
/-- A number is laid into a field. -/
def putE (e : Ev) (f : F) (x : Int) : Ev :=
  match f with
  | .who => { e with who := x }
  | .port => { e with port := x }
  | .conn => { e with conn := x }
  | .n => { e with n := x }
  | .sort => { e with sort := x }
  | .b => e
def offF : F → Nat
  | .who => 2
  | .port => 3
  | .conn => 4
  | .n => 5
  | .sort => 1
  | .b => 6
theorem blkE_put {e : Ev} {B : Option Addr} {d : Nat} (hb : Blk w g 34 (cellsE e B d)) (f : F) (hf : f ≠ .b) (x : Int) : Blk (w.setCell ⟨g, offF f, none⟩ (.int .i64 x)) g 34 (cellsE (putE e f x) B d) := by
  have h1 := hb.set_ (offF f) (.int .i64 x)
  cases f with
  | b => exact absurd rfl hf
  | _ => simpa [cellsE, offF, putE] using h1
theorem putE_b (e : Ev) (f : F) (x : Int) : (putE e f x).b = e.b := by cases f <;> rfl
theorem EvB.put {base : Nat} {e : Ev} (h : EvB w g base e) (f : F) (hf : f ≠ .b) (hg : g < base) (x : Int) : EvB (w.setCell ⟨g, offF f, none⟩ (.int .i64 x)) g base (putE e f x) := by
  obtain ⟨B, d, hb, ho⟩ := h
  have h1 := hb.set_ (offF f) (.int .i64 x)
  have h2 : ∀ e' : Ev, e'.b = e.b → Own (w.setCell ⟨g, offF f, none⟩ (.int .i64 x)) base 5 B d e'.b := fun e' he => by rw [he]; exact ho.far hg _
  cases f with
  | b => exact absurd rfl hf
  | _ => exact ⟨B, d, by simpa [cellsE, offF, putE] using h1, h2 _ rfl⟩
def EvRel (w0 : World) (ra rb : Nat) (A : Option Addr) (c : Nat) (b : List UInt8) (g base m : Nat) (fs : List F) (res : Ev × List UInt8) (NA : Option Addr) (iv : Value) (wr : World) : Prop :=
  ∃ j e l, j ≤ m ∧ iv = .int .i64 (j : Nat) ∧ readFs e (fs.drop j) l = res ∧ (F.b ∈ fs.drop j → Blk wr g 34 (cellsE e none 0) ∧ e.b = []) ∧ EvB wr g base e ∧ RL wr ra rb A c b l ∧ RdG wr 1 NA m m (namesV fs) ∧ Shy (fun k => k = ra ∨ k = g) w0 wr
def BRel (w4 : World) (ra rb : Nat) (A : Option Addr) (c : Nat) (b : List UInt8) (g cnt : Nat) (e : Ev) (l3 : List UInt8) (iv : Value) (wr : World) : Prop :=
  ∃ i2, i2 ≤ cnt ∧ iv = .int .i64 (i2 : Nat) ∧ EvB wr g w4.heap.size { e with b := takeZ i2 l3 } ∧ RL wr ra rb A c b (l3.drop i2) ∧ Shy (fun k => k = ra ∨ k = g) w4 wr
theorem names_at {fs : List F} {j : Nat} (h : j < fs.length) : (namesV fs).getD j undef = .string (nameF (fs.getD j .b)) := by
  simp [namesV, List.getD, h]
theorem drop_at {fs : List F} {j : Nat} (h : j < fs.length) : fs.drop j = fs.getD j .b :: fs.drop (j + 1) := by
  rw [List.drop_eq_getElem_cons h]
  simp [List.getD, h]
theorem once_b (k : Nat) : ∀ j, j < (fieldsS k).length → (fieldsS k).getD j .b = .b → F.b ∉ (fieldsS k).drop (j + 1) := by
  intro j hj hb
  unfold fieldsS at *
  split at * <;> (simp at hj) <;> (try (rcases j with _ | _ | _ | j <;> simp_all))
/-- What event tells. -/
def EvD (w w' : World) (ra rb : Nat) (A : Option Addr) (c : Nat) (b l : List UInt8) (e : Ending) : Prop :=
  ∃ B d, e = .returned (.agg (cellsE (evS l).1 B d)) ∧ Own w' w.heap.size 5 B d (evS l).1.b ∧ RL w' ra rb A c b (evS l).2 ∧ Shy (fun k => k = ra) w w'
set_option maxHeartbeats 2000000 in
set_option maxRecDepth 100000 in
theorem event_in (h : RL w ra rb A c b l) : Calls Try.prog 27 #[nxF ra rb] w fun e w' => EvD w w' ra rb A c b l e := by
  have H := hid h
  have hlt := h.lt
  have hk1 := num_lt 1 l
  obtain ⟨x, hx⟩ : ∃ x, num 1 l = x := ⟨_, rfl⟩
  have xa := ext_alloc w (.cells #[.int .i64 0, .int .i64 0, .int .i64 0, .int .i64 0, .int .i64 0, .int .i64 0, .slice none 0 0] 34)
  have C1 := next_l (h.ext xa) 1 (by omega)
  rw [hx] at C1 hk1
  have C1 := hid C1
  have HX := hid hx
  clear h hx xa
  unfold nxF
  go_enter Try.func27, Try.ntmps27
  go_wp2_with fail
  refine C1.out.mono ?_
  rintro e w1 ⟨rfl, r1, s1⟩
  have R1 := hid r1
  have S1 := hid s1
  obtain ⟨q, hq, hqx⟩ : ∃ q : Nat, (x : Int).tmod 10 = (q : Int) ∧ q = x % 10 := ⟨x % 10, by simp [Int.tmod_eq_emod_of_nonneg], rfl⟩
  have hq9 : q ≤ 9 := by omega
  have HQX := hid hqx
  have B1 := hid (Blk.new w1 34 #[.int .i64 ((q : Int) + 1), .int .i64 0, .int .i64 0, .int .i64 0, .int .i64 0, .int .i64 0, .slice none 0 0])
  have LK := hid (fun (W W2 : World) (mb : Nat) (L : List Fd) (f : FR W W2 mb L) (t : ∀ k : Nat, 1 ≤ k → k ≤ 10 → ∃ A, tabL L (.int .i64 k) = some (.slice A (fieldsS k).length (fieldsS k).length) ∧ ((k : Int), A, fieldsS k) ∈ L) =>
    (show ∃ B, (Instr.lookup 57 (.map (some mb)) (.int .i64 ((q : Int) + 1)) false).run Try.prog W2 = .ok (.slice B (fieldsS (q + 1)).length (fieldsS (q + 1)).length) W2 ∧ RdG W2 1 B (fieldsS (q + 1)).length (fieldsS (q + 1)).length (namesV (fieldsS (q + 1))) ∧ ∀ k, blk B = some k → W.heap.size ≤ k from by
      obtain ⟨B, h1, h2⟩ := t (q + 1) (by omega) (by omega)
      have e : (((q + 1 : Nat) : Int)) = (q : Int) + 1 := by simp
      rw [e] at h1 h2
      have h3 := f.1.look (t := 57) keyed_int Try.underlying57 (z := .slice none 0 0) (by kernel_rfl) (key_int (a := (q : Int) + 1) (by omega)) false
      rw [h1] at h3
      exact ⟨B, by simpa using h3, (f.2.2.2 _ h2).1, (f.2.2.2 _ h2).2.2⟩))
  clear r1 s1 hlt hqx hk1
  go_wp2_with fail
  go_region_held3 (fun W => W.cell? ⟨w1.heap.size, 0, none⟩ = some (.int .i64 ((q : Int) + 1))) (first | exact B1.out.drew.cell 0 | exact (B1.out.ext X2.out).cell 0 | go_keep) ((go_at_call 37; refine (fields_in _).mono ?_; rintro e w2 ⟨mb, Lf, rfl, hf, ht⟩; have X2 : Hid (Ext _ w2) := hid (ext_trans (ext_drew _) hf.2.1); obtain ⟨NA, hlk, nrd, nlo⟩ := LK.out _ _ _ _ hf ht; have NR := hid nrd; have NLO := hid nlo; clear hf ht nrd nlo))
  obtain ⟨g, hg⟩ : ∃ g, w1.heap.size = g := ⟨_, rfl⟩
  obtain ⟨fs, hfs⟩ : ∃ fs, fieldsS (q + 1) = fs := ⟨_, rfl⟩
  obtain ⟨m, hm⟩ : ∃ m, fs.length = m := ⟨_, rfl⟩
  obtain ⟨res, hres⟩ : ∃ res, readFs (ev0 ((q : Int) + 1)) fs (l.drop 1) = res := ⟨_, rfl⟩
  have hm3 : m ≤ 3 := by
    rw [← hm, ← hfs]
    unfold fieldsS
    split <;> simp
  have NR2 := NR.out
  rw [hfs, hm] at NR2
  have E2 : EvB w2 g (g + 1) (ev0 ((q : Int) + 1)) := by
    rw [← hg]
    exact ⟨none, 0, B1.out.ext X2.out, Own.nil _ _ _⟩
  have HGG := hid hg
  have ONCE := once_b (q + 1)
  rw [hfs, hm] at ONCE
  have ONCE := hid ONCE
  have hgl : w.heap.size ≤ g := by rw [← hg]; have := S1.out.size; simp at this; omega
  have hrg : ra ≠ g := by have := H.out.lt.1; omega
  have R2 := hid ((R1.out.ext (ext_alloc _ (.cells #[.int .i64 ((q : Int) + 1), .int .i64 0, .int .i64 0, .int .i64 0, .int .i64 0, .int .i64 0, .slice none 0 0] 34))).ext X2.out)
  have hbg : rb ≠ g := by have := H.out.lt.2; omega
  have hAg : 0 < b.length → ∀ k, blk A = some k → ¬ k = g := fun h0 k hk => by
    obtain ⟨i, hi, _⟩ := H.out
    obtain ⟨b', hb1, hb2⟩ := hi.rd.lt h0
    rw [hk] at hb1
    injection hb1 with hb1
    omega
  have hlo : 0 < b.length → ∀ k, blk A = some k → k < g := fun h0 k hk => by
    obtain ⟨i, hi, _⟩ := H.out
    obtain ⟨b', hb1, hb2⟩ := hi.rd.lt h0
    rw [hk] at hb1
    injection hb1 with hb1
    omega
  have hrb : rb < g := by have := H.out.lt.2; omega
  have hsz2 : ((w1.alloc (.cells #[.int .i64 ((q : Int) + 1), .int .i64 0, .int .i64 0, .int .i64 0, .int .i64 0, .int .i64 0, .slice none 0 0] 34)).drew).heap.size = g + 1 := by rw [← hg]; simp
  have NLO := NLO.out
  rw [hsz2] at NLO
  have NLO := hid NLO
  have hra : ra < g := by have := H.out.lt.1; omega
  obtain ⟨i0, hi0, hz0, hz1, hz2⟩ := info_parts info_u8
  have BR : Hid (Blk w2 w.heap.size 34 #[.int .i64 0, .int .i64 0, .int .i64 0, .int .i64 0, .int .i64 0, .int .i64 0, .slice none 0 0]) := hid ((((Blk.new w _ _).shy S1.out (by have := H.out.lt.1; omega)).ext (ext_alloc _ _)).ext X2.out)
  have hraw : ra < w.heap.size := H.out.lt.1
  have hwg : w.heap.size < g := by rw [← hg]; have := S1.out.size; simp at this; omega
  have START : Hid (EvRel w2 ra rb A c b g (g + 1) m fs res NA (.int .i64 0) w2) := hid ⟨0, _, _, Nat.zero_le _, rfl, hres, fun _ => ⟨by rw [← HGG.out]; exact B1.out.ext X2.out, rfl⟩, E2, R2.out, NR2, Shy.refl _⟩
  have HM := hid hm
  have HFS := hid hfs
  have HRES := hid hres
  have HG := hid hg
  rw [hfs, hm, hg]
  clear hlk NR2 E2 hfs hm hres hg
  go_wp2_with fail
  go_loopw [19] (fun iv wr => EvRel w2 ra rb A c b g (g + 1) m fs res NA iv wr) (fun iv _ => m - (intOf iv).toNat)
  case atStart => exact START.out
  case round =>
    obtain ⟨j, e, l2, hj, rfl, hrd, hb0, he, hr, hn, hs⟩ := hrel
    by_cases hlt : j < m
    · have i1 : (j : Int) < (m : Int) := by omega
      obtain ⟨nb, no, hNA, hnb, hcell⟩ := hn.at_ hlt
      rw [names_at (by rw [HM.out]; exact hlt)] at hcell
      have hda := drop_at (fs := fs) (j := j) (by rw [HM.out]; exact hlt)
      rw [hda] at hrd hb0
      obtain ⟨f, hf⟩ : ∃ f, fs.getD j .b = f := ⟨_, rfl⟩
      rw [hf] at hcell hrd hb0
      subst hNA
      have HF := hid hf
      clear hda hf
      cases f with
      | who =>
        have N := hid (fun W => number_in g .who W)
        have C := next_l hr 4 (by omega)
        have hnl := num_lt 4 l2
        obtain ⟨x2, hx2⟩ : ∃ x2, num 4 l2 = x2 := ⟨_, rfl⟩
        rw [hx2] at C hnl
        have C := hid C
        have HX2 := hid hx2
        have HE := hid he
        have HN := hid hn
        have HS := hid hs
        have HRD := hid hrd
        have HB0 := hid hb0
        clear he hn hs hrd hb0 hr hx2
        simp only [nameF] at hcell
        go_wp2_with fail
        refine (N.out _).mono ?_
        rintro e0 _ ⟨rfl, rfl⟩
        simp only [spotF, F.size]
        go_wp2_with fail
        refine C.out.mono ?_
        rintro e0 w4 ⟨rfl, r4, s4⟩
        have R4 := hid r4
        have S4 := hid s4
        have E4 := HE.out.shy s4 (fun e => hrg e.symm) (fun k h1 h2 e => by omega)
        obtain ⟨B4, d4, hb4, ho4⟩ := E4
        have cg : w4.cell? ⟨g, 2, none⟩ = some (.int .i64 e.who) := hb4.cell 2
        have cf := hb4.frozen
        have E4 : Hid (EvB w4 g (g + 1) e) := hid ⟨B4, d4, hb4, ho4⟩
        clear r4 s4 hb4 ho4
        go_wp2_with fail
        go_roundw
        case rel =>
          have ss := set_shy g 2 (.int .i64 x2) w4
          refine ⟨j + 1, putE e .who x2, l2.drop 4, by omega, by go_num, ?_, fun hm => ⟨blkE_put ((HB0.out (List.mem_cons_of_mem _ hm)).1.shy S4.out (fun e => hrg e.symm)) .who (by simp) _, (putE_b _ _ _).trans (HB0.out (List.mem_cons_of_mem _ hm)).2⟩, EvB.put E4.out .who (by simp) (Nat.lt_succ_self _) _, R4.out.shy ss hrg hbg hAg, ss.rdG (S4.out.rdG HN.out (fun k hk e => by have := NLO.out k hk; omega)) (fun k hk e => by have := NLO.out k hk; omega), (HS.out.trans S4.out (fun k _ e => .inl e)).set (b := g) (fun _ => .inr rfl) 2 _⟩
          rw [← HRD.out]
          rw [← HX2.out]
          rfl
        case measure => simp [intOf]; omega
      | port =>
        have N := hid (fun W => number_in g .port W)
        have C := next_l hr 2 (by omega)
        have hnl := num_lt 2 l2
        obtain ⟨x2, hx2⟩ : ∃ x2, num 2 l2 = x2 := ⟨_, rfl⟩
        rw [hx2] at C hnl
        have C := hid C
        have HX2 := hid hx2
        have HE := hid he
        have HN := hid hn
        have HS := hid hs
        have HRD := hid hrd
        have HB0 := hid hb0
        clear he hn hs hrd hb0 hr hx2
        simp only [nameF] at hcell
        go_wp2_with fail
        refine (N.out _).mono ?_
        rintro e0 _ ⟨rfl, rfl⟩
        simp only [spotF, F.size]
        go_wp2_with fail
        refine C.out.mono ?_
        rintro e0 w4 ⟨rfl, r4, s4⟩
        have R4 := hid r4
        have S4 := hid s4
        have E4 := HE.out.shy s4 (fun e => hrg e.symm) (fun k h1 h2 e => by omega)
        obtain ⟨B4, d4, hb4, ho4⟩ := E4
        have cg : w4.cell? ⟨g, 3, none⟩ = some (.int .i64 e.port) := hb4.cell 3
        have cf := hb4.frozen
        have E4 : Hid (EvB w4 g (g + 1) e) := hid ⟨B4, d4, hb4, ho4⟩
        clear r4 s4 hb4 ho4
        go_wp2_with fail
        go_roundw
        case rel =>
          have ss := set_shy g 3 (.int .i64 x2) w4
          refine ⟨j + 1, putE e .port x2, l2.drop 2, by omega, by go_num, ?_, fun hm => ⟨blkE_put ((HB0.out (List.mem_cons_of_mem _ hm)).1.shy S4.out (fun e => hrg e.symm)) .port (by simp) _, (putE_b _ _ _).trans (HB0.out (List.mem_cons_of_mem _ hm)).2⟩, EvB.put E4.out .port (by simp) (Nat.lt_succ_self _) _, R4.out.shy ss hrg hbg hAg, ss.rdG (S4.out.rdG HN.out (fun k hk e => by have := NLO.out k hk; omega)) (fun k hk e => by have := NLO.out k hk; omega), (HS.out.trans S4.out (fun k _ e => .inl e)).set (b := g) (fun _ => .inr rfl) 3 _⟩
          rw [← HRD.out]
          rw [← HX2.out]
          rfl
        case measure => simp [intOf]; omega
      | conn =>
        have N := hid (fun W => number_in g .conn W)
        have C := next_l hr 2 (by omega)
        have hnl := num_lt 2 l2
        obtain ⟨x2, hx2⟩ : ∃ x2, num 2 l2 = x2 := ⟨_, rfl⟩
        rw [hx2] at C hnl
        have C := hid C
        have HX2 := hid hx2
        have HE := hid he
        have HN := hid hn
        have HS := hid hs
        have HRD := hid hrd
        have HB0 := hid hb0
        clear he hn hs hrd hb0 hr hx2
        simp only [nameF] at hcell
        go_wp2_with fail
        refine (N.out _).mono ?_
        rintro e0 _ ⟨rfl, rfl⟩
        simp only [spotF, F.size]
        go_wp2_with fail
        refine C.out.mono ?_
        rintro e0 w4 ⟨rfl, r4, s4⟩
        have R4 := hid r4
        have S4 := hid s4
        have E4 := HE.out.shy s4 (fun e => hrg e.symm) (fun k h1 h2 e => by omega)
        obtain ⟨B4, d4, hb4, ho4⟩ := E4
        have cg : w4.cell? ⟨g, 4, none⟩ = some (.int .i64 e.conn) := hb4.cell 4
        have cf := hb4.frozen
        have E4 : Hid (EvB w4 g (g + 1) e) := hid ⟨B4, d4, hb4, ho4⟩
        clear r4 s4 hb4 ho4
        go_wp2_with fail
        go_roundw
        case rel =>
          have ss := set_shy g 4 (.int .i64 x2) w4
          refine ⟨j + 1, putE e .conn x2, l2.drop 2, by omega, by go_num, ?_, fun hm => ⟨blkE_put ((HB0.out (List.mem_cons_of_mem _ hm)).1.shy S4.out (fun e => hrg e.symm)) .conn (by simp) _, (putE_b _ _ _).trans (HB0.out (List.mem_cons_of_mem _ hm)).2⟩, EvB.put E4.out .conn (by simp) (Nat.lt_succ_self _) _, R4.out.shy ss hrg hbg hAg, ss.rdG (S4.out.rdG HN.out (fun k hk e => by have := NLO.out k hk; omega)) (fun k hk e => by have := NLO.out k hk; omega), (HS.out.trans S4.out (fun k _ e => .inl e)).set (b := g) (fun _ => .inr rfl) 4 _⟩
          rw [← HRD.out]
          rw [← HX2.out]
          rfl
        case measure => simp [intOf]; omega
      | n =>
        have N := hid (fun W => number_in g .n W)
        have C := next_l hr 2 (by omega)
        have hnl := num_lt 2 l2
        obtain ⟨x2, hx2⟩ : ∃ x2, num 2 l2 = x2 := ⟨_, rfl⟩
        rw [hx2] at C hnl
        have C := hid C
        have HX2 := hid hx2
        have HE := hid he
        have HN := hid hn
        have HS := hid hs
        have HRD := hid hrd
        have HB0 := hid hb0
        clear he hn hs hrd hb0 hr hx2
        simp only [nameF] at hcell
        go_wp2_with fail
        refine (N.out _).mono ?_
        rintro e0 _ ⟨rfl, rfl⟩
        simp only [spotF, F.size]
        go_wp2_with fail
        refine C.out.mono ?_
        rintro e0 w4 ⟨rfl, r4, s4⟩
        have R4 := hid r4
        have S4 := hid s4
        have E4 := HE.out.shy s4 (fun e => hrg e.symm) (fun k h1 h2 e => by omega)
        obtain ⟨B4, d4, hb4, ho4⟩ := E4
        have cg : w4.cell? ⟨g, 5, none⟩ = some (.int .i64 e.n) := hb4.cell 5
        have cf := hb4.frozen
        have E4 : Hid (EvB w4 g (g + 1) e) := hid ⟨B4, d4, hb4, ho4⟩
        clear r4 s4 hb4 ho4
        go_wp2_with fail
        go_roundw
        case rel =>
          have ss := set_shy g 5 (.int .i64 x2) w4
          refine ⟨j + 1, putE e .n x2, l2.drop 2, by omega, by go_num, ?_, fun hm => ⟨blkE_put ((HB0.out (List.mem_cons_of_mem _ hm)).1.shy S4.out (fun e => hrg e.symm)) .n (by simp) _, (putE_b _ _ _).trans (HB0.out (List.mem_cons_of_mem _ hm)).2⟩, EvB.put E4.out .n (by simp) (Nat.lt_succ_self _) _, R4.out.shy ss hrg hbg hAg, ss.rdG (S4.out.rdG HN.out (fun k hk e => by have := NLO.out k hk; omega)) (fun k hk e => by have := NLO.out k hk; omega), (HS.out.trans S4.out (fun k _ e => .inl e)).set (b := g) (fun _ => .inr rfl) 5 _⟩
          rw [← HRD.out]
          rw [← HX2.out]
          rfl
        case measure => simp [intOf]; omega
      | sort =>
        have N := hid (fun W => number_in g .sort W)
        have C := next_l hr 1 (by omega)
        have hnl := num_lt 1 l2
        obtain ⟨x2, hx2⟩ : ∃ x2, num 1 l2 = x2 := ⟨_, rfl⟩
        rw [hx2] at C hnl
        have C := hid C
        have HX2 := hid hx2
        have HE := hid he
        have HN := hid hn
        have HS := hid hs
        have HRD := hid hrd
        have HB0 := hid hb0
        clear he hn hs hrd hb0 hr hx2
        simp only [nameF] at hcell
        go_wp2_with fail
        refine (N.out _).mono ?_
        rintro e0 _ ⟨rfl, rfl⟩
        simp only [spotF, F.size]
        go_wp2_with fail
        refine C.out.mono ?_
        rintro e0 w4 ⟨rfl, r4, s4⟩
        have R4 := hid r4
        have S4 := hid s4
        have E4 := HE.out.shy s4 (fun e => hrg e.symm) (fun k h1 h2 e => by omega)
        obtain ⟨B4, d4, hb4, ho4⟩ := E4
        have cg : w4.cell? ⟨g, 1, none⟩ = some (.int .i64 e.sort) := hb4.cell 1
        have cf := hb4.frozen
        have E4 : Hid (EvB w4 g (g + 1) e) := hid ⟨B4, d4, hb4, ho4⟩
        clear r4 s4 hb4 ho4
        obtain ⟨q2, hq2, hqx2⟩ : ∃ q2 : Nat, (x2 : Int).tmod 4 = (q2 : Int) ∧ q2 = x2 % 4 := ⟨x2 % 4, by simp [Int.tmod_eq_emod_of_nonneg], rfl⟩
        have HQ2 := hid hqx2
        clear hqx2
        go_wp2_with fail
        go_roundw
        case rel =>
          have ss := set_shy g 1 (.int .i64 q2) w4
          refine ⟨j + 1, putE e .sort q2, l2.drop 1, by omega, by go_num, ?_, fun hm => ⟨blkE_put ((HB0.out (List.mem_cons_of_mem _ hm)).1.shy S4.out (fun e => hrg e.symm)) .sort (by simp) _, (putE_b _ _ _).trans (HB0.out (List.mem_cons_of_mem _ hm)).2⟩, EvB.put E4.out .sort (by simp) (Nat.lt_succ_self _) _, R4.out.shy ss hrg hbg hAg, ss.rdG (S4.out.rdG HN.out (fun k hk e => by have := NLO.out k hk; omega)) (fun k hk e => by have := NLO.out k hk; omega), (HS.out.trans S4.out (fun k _ e => .inl e)).set (b := g) (fun _ => .inr rfl) 1 _⟩
          rw [← HRD.out]
          rw [HQ2.out, ← HX2.out]
          rfl
        case measure => simp [intOf]; omega
      | b =>
        have N := hid (fun W => number_in g .b W)
        have C := next_l hr 2 (by omega)
        have hnl := num_lt 2 l2
        obtain ⟨x2, hx2⟩ : ∃ x2, num 2 l2 = x2 := ⟨_, rfl⟩
        rw [hx2] at C hnl
        have C := hid C
        have HX2 := hid hx2
        have HN := hid hn
        have HS := hid hs
        have HRD := hid hrd
        have HB0 := hid (hb0 (by simp))
        clear he hn hs hrd hb0 hr hx2
        simp only [nameF] at hcell
        go_wp2_with fail
        refine (N.out _).mono ?_
        rintro e0 _ ⟨rfl, rfl⟩
        simp only [spotF, F.size]
        go_wp2_with fail
        refine C.out.mono ?_
        rintro e0 w4 ⟨rfl, r4, s4⟩
        have S4 := hid s4
        have hb4 := HB0.out.1.shy s4 (fun e => hrg e.symm)
        have E4 : Hid (EvB w4 g w4.heap.size { e with b := takeZ 0 (l2.drop 2) }) := hid ⟨none, 0, by
          have h1 := HB0.out.2
          simpa [cellsE, takeZ, h1] using hb4, Own.nil _ _ _⟩
        have hg4 : g < w4.heap.size := hb4.lt
        have R4 := hid r4
        obtain ⟨l3, hl3⟩ : ∃ l3, l2.drop 2 = l3 := ⟨_, rfl⟩
        rw [hl3] at E4 R4
        have HL3 := hid hl3
        obtain ⟨cnt, hcnt, hcx⟩ : ∃ cnt : Nat, (x2 : Int).tmod 4097 = (cnt : Int) ∧ cnt = x2 % 4097 := ⟨x2 % 4097, by simp [Int.tmod_eq_emod_of_nonneg], rfl⟩
        have hc4 : cnt ≤ 4096 := by omega
        have HCX := hid hcx
        clear r4 s4 hb4 hl3 hcx
        go_wp2_with fail
        go_loopw [39] (fun iv wr => BRel w4 ra rb A c b g cnt e l3 iv wr) (fun iv _ => cnt - (intOf iv).toNat)
        case atStart => exact ⟨0, Nat.zero_le _, rfl, E4.out, R4.out, Shy.refl _⟩
        case round =>
          obtain ⟨i2, hi2, rfl, eb, rb2, sb⟩ := hrel
          by_cases hlt2 : i2 < cnt
          · have i3 : (i2 : Int) < (cnt : Int) := by omega
            obtain ⟨B5, d5, hb5, ho5⟩ := eb
            have ho5 : OwnG isU8 wr w4.heap.size 5 1 B5 i2 d5 ((takeZ i2 l3).map u8v) := by have h1 := ho5; unfold Own at h1; rwa [takeZ_len] at h1
            have c6 : ∀ W, Blk W g 34 (cellsE { e with b := takeZ i2 l3 } B5 d5) → W.cell? ⟨g, 6, none⟩ = some (.slice B5 i2 d5) ∧ W.frozen? ⟨g, 6, none⟩ = false := fun W h => ⟨by have h1 := h.cell 6; simp [cellsE, takeZ_len] at h1; exact h1, h.frozen 6⟩
            have C6 := hid c6
            obtain ⟨u, hu⟩ : ∃ u, (l3.drop i2).headD 0 = u := ⟨_, rfl⟩
            have hn1 : num 1 (l3.drop i2) = u.toNat := by rw [← hu]; simp [num, rdA]
            have C5 := next_l (rb2.ext (ext_drew _)) 1 (by omega)
            rw [hn1, List.drop_drop] at C5
            have C5 := hid C5
            have HU := hid hu
            have hu9 : u.toNat < 256 := UInt8.toNat_lt _
            have hwu : IntKind.u8.wrap (u.toNat : Int) = (u.toNat : Int) := IntWalk.u8_in _ (by omega)
            have HB5 := hid hb5
            have HO5 := hid ho5
            have SB := hid sb
            clear hb5 ho5 sb rb2 c6 hu hn1
            go_wp2_with fail
            refine wp_region_noPanic ?_
            refine region_E (S := fun W => W.cell? ⟨g, 6, none⟩ = some (.slice B5 i2 d5) ∧ W.frozen? ⟨g, 6, none⟩ = false) 8 (by kernel_rfl) (by kernel_rfl) (by kernel_rfl) ?_
            refine EG_take 0 (v := ?v1) (by simp only [List.getElem?_toArray, List.getElem?_cons_succ, List.getElem?_cons_zero]; rfl) (by kernel_rfl) (by kernel_rfl) (by decide) (fun _ _ _ h => h) (Or.inl ⟨by rfl, ?hy1⟩) (C6.out _ HB5.out.drew) ?rest1
            case hy1 => intro W hSW; (try dsimp only at hSW); obtain ⟨e6, ef⟩ := hSW; go_simp <;> with_reducible rfl
            try simp only [Act.put, List.setIfInBounds_toArray, List.set_cons_zero, List.set_cons_succ]
            refine EG_take 1 (v := ?v2) (by simp only [List.getElem?_toArray, List.getElem?_cons_succ, List.getElem?_cons_zero]; rfl) (by kernel_rfl) (by kernel_rfl) (by decide) (fun _ _ _ h => h) (Or.inl ⟨by rfl, ?hy2⟩) (C6.out _ HB5.out.drew) ?rest2
            case hy2 => intro W hSW; (try dsimp only at hSW); obtain ⟨e6, ef⟩ := hSW; go_simp <;> with_reducible rfl
            try simp only [Act.put, List.setIfInBounds_toArray, List.set_cons_zero, List.set_cons_succ]
            refine EG_take 2 (v := ?v3) (by simp only [List.getElem?_toArray, List.getElem?_cons_succ, List.getElem?_cons_zero]; rfl) (by kernel_rfl) (by kernel_rfl) (by decide) (fun _ _ _ h => h) (Or.inl ⟨by rfl, ?hy3⟩) (C6.out _ HB5.out.drew) ?rest3
            case hy3 => intro W hSW; (try dsimp only at hSW); obtain ⟨e6, ef⟩ := hSW; go_simp <;> with_reducible rfl
            try simp only [Act.put, List.setIfInBounds_toArray, List.set_cons_zero, List.set_cons_succ]
            refine EG_one 3 (by kernel_rfl) (by simp only [List.getElem?_toArray, List.getElem?_cons_succ, List.getElem?_cons_zero]; rfl) (by decide) ?_
            intro K hK0
            have hK := hid hK0
            clear hK0
            go_simp
            refine C5.out.mono ?_
            rintro e0 w5 ⟨rfl, r5, s5⟩
            have HB6 := hid (HB5.out.drew.shy s5 (fun e => hrg e.symm))
            have HO6 := hid (s5.ownG (HO5.out.ext (ext_drew _)) (fun k hk e => by have := (HO5.out.lt k hk).1; omega))
            have R5 := hid r5
            have S5 := hid s5
            clear r5 s5
            go_simp
            refine hK.out _ _ (C6.out _ HB6.out) ?_
            clear hK K
            try simp only [Act.put, List.setIfInBounds_toArray, List.set_cons_zero, List.set_cons_succ]
            refine EG_take 4 (v := ?v11) (by simp only [List.getElem?_toArray, List.getElem?_cons_succ, List.getElem?_cons_zero]; rfl) (by kernel_rfl) (by kernel_rfl) (by decide) (fun _ _ _ h => h) (Or.inl ⟨by rfl, ?hy11⟩) (C6.out _ HB6.out) ?rest11
            case hy11 => intro W hSW; (try dsimp only at hSW); obtain ⟨e6, ef⟩ := hSW; go_simp <;> with_reducible rfl
            try simp only [Act.put, List.setIfInBounds_toArray, List.set_cons_zero, List.set_cons_succ]
            refine EG_one 5 (by kernel_rfl) (by simp only [List.getElem?_toArray, List.getElem?_cons_succ, List.getElem?_cons_zero]; rfl) (by decide) ?_
            intro K hK0
            have hK := hid hK0
            clear hK0
            go_simp
            refine hK.out _ _ (C6.out _ (HB6.out.alloc _)) ?_
            clear hK K
            try simp only [Act.put, List.setIfInBounds_toArray, List.set_cons_zero, List.set_cons_succ]
            refine EG_one 6 (by kernel_rfl) (by simp only [List.getElem?_toArray, List.getElem?_cons_succ, List.getElem?_cons_zero]; rfl) (by decide) ?_
            intro K hK0
            have hK := hid hK0
            clear hK0
            refine step_append_g rfl (.tmp 42) (.tmp 46) 22 (by rfl) w4.heap.size 5 i0 (.int .u8 0) 1 1 Try.underlying22 hi0 hz0 hz1 hz2 (by rfl) (by decide) (by simp [Value.cells]; exact ⟨0, rfl⟩) (fun _ h => h.one) (by rfl) (HO6.out.ext (ext_alloc _ _)) (by rfl) (RdG.single w5 (.int .u8 u.toNat) 5) (by intro v hv; rw [List.mem_singleton] at hv; exact ⟨u, hv⟩) (by omega) (by unfold maxLen; omega) (by have h1 := SB.out.size; have h2 := S5.out.size; simp at h2 ⊢; omega) ?_
            intro A6 c6 w6 o6 g6 n6
            have HB7 := hid ((HB6.out.alloc _).grown g6 (fun e => by have h1 := (HO6.out.lt g e.symm).1; omega))
            have G6 := hid g6
            have O6 := hid o6
            clear o6 g6 n6
            refine hK.out _ _ (C6.out _ HB7.out) ?_
            clear hK K
            try simp only [Act.put, List.setIfInBounds_toArray, List.set_cons_zero, List.set_cons_succ]
            refine EG_take 7 (v := ?v12) (by simp only [List.getElem?_toArray, List.getElem?_cons_succ, List.getElem?_cons_zero]; rfl) (by kernel_rfl) (by kernel_rfl) (by decide) (fun _ _ _ h => h) (Or.inl ⟨by rfl, ?hy12⟩) (C6.out _ HB7.out) ?rest12
            case hy12 => intro W hSW; (try dsimp only at hSW); obtain ⟨e6, ef⟩ := hSW; go_simp <;> with_reducible rfl
            try simp only [Act.put, List.setIfInBounds_toArray, List.set_cons_zero, List.set_cons_succ]
            have c7 := (C6.out _ HB7.out).1
            have f7 := (C6.out _ HB7.out).2
            refine EG_end (by kernel_rfl) (by simp only [List.getElem?_toArray, List.getElem?_cons_succ, List.getElem?_cons_zero]; rfl) ?_
            intro K hK0
            have hK := hid hK0
            clear hK0
            go_simp
            refine hK.out _ _ ?_
            clear hK K
            refine NoPanic.normal ?_
            go_wp2_with fail
            go_roundw
            case rel =>
              have hob : ∀ k, blk B5 = some k → w4.heap.size ≤ k := fun k hk => (HO6.out.lt k hk).1
              have sh1 : Shy (fun k => w4.heap.size ≤ k) w5 w6 := (Shy.of_ext (ext_alloc _ _)).grown G6.out (fun k hk _ => hob k hk)
              have sh2 := set_shy g 6 (.slice A6 (i2 + 1) c6) w6
              refine ⟨i2 + 1, by omega, by go_num, ⟨A6, c6, ?_, ?_⟩, (R5.out.shy sh1 (by omega) (by omega) (fun h0 k hk e => by have h1 := hlo h0 k hk; omega)).shy sh2 hrg hbg hAg, ?_⟩
              · have h1 := HB7.out.set_ 6 (.slice A6 (i2 + 1) c6)
                simpa [cellsE, takeZ_len] using h1
              · show Own _ _ _ _ _ (takeZ (i2 + 1) l3)
                unfold Own
                rw [takeZ_len, takeZ_succ, List.map_append, HU.out]
                exact O6.out.far hg4 _
              · exact ((((SB.out.ext (ext_drew _)).trans S5.out (fun k _ e => .inl e)).ext (ext_alloc _ _)).grown G6.out (fun k hk hlt => absurd hlt (by have := hob k hk; omega))).set (b := g) (fun _ => .inr rfl) 6 _
            case measure => simp [intOf]; omega
          · obtain rfl : cnt = i2 := by omega
            have i3 : ¬ (cnt : Int) < (cnt : Int) := by omega
            have EB := hid eb
            have RB := hid rb2
            have SB := hid sb
            clear eb rb2 sb
            go_wp2_with fail
            go_roundw
            case rel =>
              refine ⟨j + 1, { e with b := takeZ cnt l3 }, l3.drop cnt, by omega, by go_num, ?_, fun hm => absurd hm (ONCE.out j (by omega) ?_), ?_, RB.out, ?_, ?_⟩
              · rw [← HRD.out, HCX.out, ← HX2.out, ← HL3.out]
                rfl
              · exact HF.out
              · obtain ⟨Bz, dz, z1, z2⟩ := EB.out
                exact ⟨Bz, dz, z1, z2.mono (by omega)⟩
              · exact SB.out.rdG (S4.out.rdG HN.out (fun k hk e => by have := NLO.out k hk; omega)) (fun k hk e => by have := NLO.out k hk; omega)
              · exact (HS.out.trans S4.out (fun k _ e => .inl e)).trans SB.out (fun k _ e => e)
            case measure => simp [intOf]; omega
    · obtain rfl : j = m := by omega
      have i1 : ¬ (j : Int) < (j : Int) := by omega
      obtain ⟨B5, d5, hb5, ho5⟩ := he
      have ce := hb5.cell
      have k0 : wr.cell? ⟨g, 0, none⟩ = some (.int .i64 e.kind) := hb5.cell 0
      have k1 : wr.cell? ⟨g, 1, none⟩ = some (.int .i64 e.sort) := hb5.cell 1
      have k2 : wr.cell? ⟨g, 2, none⟩ = some (.int .i64 e.who) := hb5.cell 2
      have k3 : wr.cell? ⟨g, 3, none⟩ = some (.int .i64 e.port) := hb5.cell 3
      have k4 : wr.cell? ⟨g, 4, none⟩ = some (.int .i64 e.conn) := hb5.cell 4
      have k5 : wr.cell? ⟨g, 5, none⟩ = some (.int .i64 e.n) := hb5.cell 5
      have k6 : wr.cell? ⟨g, 6, none⟩ = some (.slice B5 e.b.length d5) := hb5.cell 6
      have hbr : Blk wr w.heap.size 34 #[.int .i64 0, .int .i64 0, .int .i64 0, .int .i64 0, .int .i64 0, .int .i64 0, .slice none 0 0] := BR.out.shy hs (fun e => by rcases e with e | e <;> omega)
      have r0 := hbr.cell
      have rf := hbr.frozen
      have HBR := hid hbr
      have HRD := hid hrd
      have HS := hid hs
      have HO := hid ho5
      have HR := hid hr
      clear ce hb5 ho5 hbr hrd hs hr hn
      go_wp2_with fail
      refine bodyPost_ret (v := .agg (cellsE e B5 d5)) (by simp [results, Try.results27, go_sem, r0, cellsE]) rfl ?_
      have sh9 : Shy (fun k => k = w.heap.size) wr (((((((wr.setCell ⟨w.heap.size, 0, none⟩ (.int .i64 e.kind)).setCell ⟨w.heap.size, 1, none⟩ (.int .i64 e.sort)).setCell ⟨w.heap.size, 2, none⟩ (.int .i64 e.who)).setCell ⟨w.heap.size, 3, none⟩ (.int .i64 e.port)).setCell ⟨w.heap.size, 4, none⟩ (.int .i64 e.conn)).setCell ⟨w.heap.size, 5, none⟩ (.int .i64 e.n)).setCell ⟨w.heap.size, 6, none⟩ (.slice B5 e.b.length d5)) :=
        (((((((Shy.refl (U := fun k => k = w.heap.size) wr).set (b := w.heap.size) (fun _ => rfl) 0 _).set (b := w.heap.size) (fun _ => rfl) 1 _).set (b := w.heap.size) (fun _ => rfl) 2 _).set (b := w.heap.size) (fun _ => rfl) 3 _).set (b := w.heap.size) (fun _ => rfl) 4 _).set (b := w.heap.size) (fun _ => rfl) 5 _).set (b := w.heap.size) (fun _ => rfl) 6 _
      have hres : evS l = (e, l2) := by
        have h1 := HRD.out
        rw [← HM.out, List.drop_length] at h1
        have h2 := HRES.out
        rw [← HFS.out, ← h1] at h2
        have hk : kindS l = q + 1 := by unfold kindS; rw [HX.out, HQX.out]
        unfold evS
        rw [hk]
        simpa [readFs] using h2
      have hrw : rb < w.heap.size := H.out.lt.2
      have hAw : 0 < b.length → ∀ k, blk A = some k → ¬ k = w.heap.size := fun h0 k hk => by
        obtain ⟨i, hi, _⟩ := H.out
        obtain ⟨b', hb1, hb2⟩ := hi.rd.lt h0
        rw [hk] at hb1
        injection hb1 with hb1
        omega
      rw [EvD, hres]
      refine ⟨B5, d5, rfl, ?_, HR.out.shy sh9 (by omega) (by omega) hAw, ?_⟩
      · exact OwnG.mono (sh9.ownG HO.out (fun k hk e => by have := (OwnG.lt HO.out k hk).1; omega)) (by omega)
      · exact ((((((Shy.of_ext (ext_alloc w _)) : Shy (fun k => k = ra) w _).trans S1.out (fun k _ e => e)).ext (ext_alloc _ _)).ext X2.out).trans HS.out (fun k hk e => by rcases e with e | e; exact e; omega)).trans sh9 (fun k hk e => by omega)
end
end Go.Proofs.Ytholjbnggnfapaa

/- Layer 29: the document's reader: an event. (Printed by gen_rsc.py.) -/
import Derived.Test.YtholjbnggnfapaaRscB
import Derived.Test.YtholjbnggnfapaaScrF
namespace Go.Proofs.Ytholjbnggnfapaa
open Go.BK Go.BK.SC Go.RowKit
set_option linter.unusedVariables false
set_option linter.unusedSimpArgs false
def zero7 : Array Value := #[.int .i64 0, .int .i64 0, .int .i64 0, .int .i64 0, .int .i64 0, .int .i64 0, .slice none 0 0]
/-- Within event: the reader, the event so far (block ge), the result's block gr. -/
structure EvSt (w0 w : World) (g ge gr base : Nat) (A : Option Addr) (c : Nat) (b l : List UInt8) (k : Nat) (e : Ev) : Prop where
  rl : RLr w g A c b l k
  ev : EvB w ge base e
  rs : Blk w gr 34 zero7
  sh : Shy (fun k => k = g) w0 w
  h1 : g < w0.heap.size
  h2 : 0 < b.length → ∀ k, blk A = some k → k < w0.heap.size
  h3 : w0.heap.size ≤ gr ∧ gr < ge ∧ ge < base
section
variable {w0 w w' : World} {g ge gr base c k k' : Nat} {A : Option Addr} {b l l' : List UInt8} {e : Ev}
theorem EvSt.read (S : EvSt w0 w g ge gr base A c b l k e) (r : RLr w' g A c b l' k') (s : Shy (fun k => k = g) w w') : EvSt w0 w' g ge gr base A c b l' k' e :=
  ⟨r, S.ev.shy s (fun e => by have := S.h1; have := S.h3; omega) (fun j hj _ e => by have := S.h1; have := S.h3; omega), S.rs.shy s (fun e => by have := S.h1; have := S.h3; omega), S.sh.trans s (fun k _ e => e), S.h1, S.h2, S.h3⟩
theorem EvSt.put (S : EvSt w0 w g ge gr base A c b l k e) (f : F) (hf : f ≠ .b) (x : Int) : EvSt w0 (w.setCell ⟨ge, offF f, none⟩ (.int .i64 x)) g ge gr base A c b l k (putE e f x) := by
  have s := set_shy ge (offF f) (.int .i64 x) w
  have h1 := S.h1
  have h3 := S.h3
  exact ⟨S.rl.shy s (fun e => by omega) (fun h0 k hk e => by have := S.h2 h0 k hk; omega), S.ev.put f hf (by omega) x, S.rs.shy s (fun e => by omega), S.sh.set (b := ge) (fun h => by omega) _ _, S.h1, S.h2, S.h3⟩
theorem EvSt.setB (S : EvSt w0 w g ge gr base A c b l k e) {B : Option Addr} {d : Nat} {q : List UInt8} (o : Own w base 5 B d q) {n : Nat} (hn : q.length = n) : EvSt w0 (w.setCell ⟨ge, 6, none⟩ (.slice B n d)) g ge gr base A c b l k { e with b := q } := by
  subst hn
  have s := set_shy ge 6 (.slice B q.length d) w
  have h1 := S.h1
  have h3 := S.h3
  obtain ⟨B0, d0, hb, _⟩ := S.ev
  refine ⟨S.rl.shy s (fun e => by omega) (fun h0 k hk e => by have := S.h2 h0 k hk; omega), ⟨B, d, ?_, o.far (by show ge < base; omega) _⟩, S.rs.shy s (fun e => by omega), S.sh.set (b := ge) (fun h => by omega) _ _, S.h1, S.h2, S.h3⟩
  have := hb.set_ 6 (.slice B q.length d)
  simpa [cellsE] using this
theorem EvSt.top (S : EvSt w0 w g ge gr base A c b l k e) (hb : base = ge + 1) : ge + 1 ≤ w.heap.size := by
  obtain ⟨B, d, h, _⟩ := S.ev
  exact h.lt
theorem EvSt.cells (S : EvSt w0 w g ge gr base A c b l k e) : ∃ B d, Own w base 5 B d e.b ∧ w.cell? ⟨ge, 0, none⟩ = some (.int .i64 e.kind) ∧ w.cell? ⟨ge, 1, none⟩ = some (.int .i64 e.sort) ∧ w.cell? ⟨ge, 2, none⟩ = some (.int .i64 e.who) ∧ w.cell? ⟨ge, 3, none⟩ = some (.int .i64 e.port) ∧
    w.cell? ⟨ge, 4, none⟩ = some (.int .i64 e.conn) ∧ w.cell? ⟨ge, 5, none⟩ = some (.int .i64 e.n) ∧ w.cell? ⟨ge, 6, none⟩ = some (.slice B e.b.length d) ∧ ∀ i, w.frozen? ⟨ge, i, none⟩ = false := by
  obtain ⟨B, d, hb, ho⟩ := S.ev
  exact ⟨B, d, ho, hb.cell 0, hb.cell 1, hb.cell 2, hb.cell 3, hb.cell 4, hb.cell 5, hb.cell 6, hb.frozen⟩
/-- What the document's event tells. -/
def RevD (w w' : World) (g : Nat) (A : Option Addr) (c : Nat) (b l : List UInt8) (k : Nat) (e : Ending) : Prop :=
  ∃ B d, e = .returned (.agg (cellsE (evS l).1 B d)) ∧ Own w' w.heap.size 5 B d (evS l).1.b ∧ RLr w' g A c b (evS l).2 k ∧ Shy (fun k => k = g) w w'
theorem EvSt.done (S : EvSt w0 w g ge gr base A c b l' k' e) {B : Option Addr} {d : Nat} (o : Own w base 5 B d e.b) (he : evS l = (e, l')) (hk : k' ≤ k) :
    RevD w0 (((((((w.setCell ⟨gr, 0, none⟩ (.int .i64 e.kind)).setCell ⟨gr, 1, none⟩ (.int .i64 e.sort)).setCell ⟨gr, 2, none⟩ (.int .i64 e.who)).setCell ⟨gr, 3, none⟩ (.int .i64 e.port)).setCell ⟨gr, 4, none⟩ (.int .i64 e.conn)).setCell ⟨gr, 5, none⟩ (.int .i64 e.n)).setCell ⟨gr, 6, none⟩ (.slice B e.b.length d)) g A c b l k (.returned (.agg (cellsE e B d))) := by
  have sh9 : Shy (fun k => k = gr) w (((((((w.setCell ⟨gr, 0, none⟩ (.int .i64 e.kind)).setCell ⟨gr, 1, none⟩ (.int .i64 e.sort)).setCell ⟨gr, 2, none⟩ (.int .i64 e.who)).setCell ⟨gr, 3, none⟩ (.int .i64 e.port)).setCell ⟨gr, 4, none⟩ (.int .i64 e.conn)).setCell ⟨gr, 5, none⟩ (.int .i64 e.n)).setCell ⟨gr, 6, none⟩ (.slice B e.b.length d)) :=
    (((((((Shy.refl (U := fun k => k = gr) w).set (b := gr) (fun _ => rfl) 0 _).set (b := gr) (fun _ => rfl) 1 _).set (b := gr) (fun _ => rfl) 2 _).set (b := gr) (fun _ => rfl) 3 _).set (b := gr) (fun _ => rfl) 4 _).set (b := gr) (fun _ => rfl) 5 _).set (b := gr) (fun _ => rfl) 6 _
  have h1 := S.h1
  have h3 := S.h3
  rw [RevD, he]
  refine ⟨B, d, rfl, OwnG.mono (sh9.ownG o (fun k hk e => by have := (OwnG.lt o k hk).1; omega)) (by omega), (S.rl.shy sh9 (by omega) (fun h0 k hk e => by have := S.h2 h0 k hk; omega)).mono hk, ?_⟩
  exact S.sh.trans sh9 (fun k hk e => by omega)
set_option maxHeartbeats 4000000 in
set_option maxRecDepth 100000 in
theorem rf_event (h : RLr w g A c b l k) (hk : k ≤ 2 ^ 59) : Calls Try.prog 28 #[.pointer (some ⟨g, 0, none⟩)] w fun e w' => RevD w w' g A c b l (k + 6000) e := by
  have H := hid h
  have hlt := h.lt
  have hk1 := num_lt 1 l
  obtain ⟨x, hx⟩ : ∃ x, num 1 l = x := ⟨_, rfl⟩
  have xa := ext_alloc w (.cells #[.int .i64 0, .int .i64 0, .int .i64 0, .int .i64 0, .int .i64 0, .int .i64 0, .slice none 0 0] 34)
  have BR := hid (Blk.new w 34 zero7)
  have C1 := rf_num (h.ext xa) 1 (by omega) (by omega)
  rw [hx] at C1 hk1
  have C1 := hid C1
  have HX := hid hx
  have XA := hid xa
  clear h hx xa
  go_enter Try.func28, Try.ntmps28
  go_wp2_with fail
  refine C1.out.mono ?_
  rintro e w1 ⟨rfl, r1, s1⟩
  have R1 := hid r1
  have S1 := hid s1
  obtain ⟨q, hq, hqx⟩ : ∃ q : Nat, (x : Int) % 10 = (q : Int) ∧ q = x % 10 := ⟨x % 10, by simp, rfl⟩
  obtain ⟨K, hK⟩ : ∃ K : Int, (q : Int) + 1 = K := ⟨_, rfl⟩
  have hqK : K = ((q + 1 : Nat) : Int) := by rw [← hK]; simp
  have hks : q = 0 ∨ q = 1 ∨ q = 2 ∨ q = 3 ∨ q = 4 ∨ q = 5 ∨ q = 6 ∨ q = 7 ∨ q = 8 ∨ q = 9 := by omega
  have hsz1 := s1.size
  simp at hsz1
  obtain ⟨ge, hge⟩ : ∃ ge, w1.heap.size = ge := ⟨_, rfl⟩
  have ST : Hid (EvSt w (w1.alloc (.cells #[.int .i64 K, .int .i64 0, .int .i64 0, .int .i64 0, .int .i64 0, .int .i64 0, .slice none 0 0] 34)) g ge w.heap.size (ge + 1) A c b (l.drop 1) (k + 1) (ev0 K)) := by
    have xb := ext_alloc w1 (.cells #[.int .i64 K, .int .i64 0, .int .i64 0, .int .i64 0, .int .i64 0, .int .i64 0, .slice none 0 0] 34)
    refine hid ⟨r1.ext xb, ⟨none, 0, ?_, Own.nil _ _ _⟩, (BR.out.shy s1 (by omega)).ext xb, (((Shy.of_ext XA.out : Shy (fun k => k = g) w _)).trans s1 (fun k _ e => e)).ext xb, hlt, fun h0 k hk => ?_, by omega⟩
    · rw [← hge]
      exact Blk.new w1 _ _
    · obtain ⟨b', h1, h2⟩ := H.out.rd.lt h0
      rw [hk] at h1
      injection h1 with h1
      omega
  have HKS := hid hks
  have HQX := hid hqx
  have HQK := hid hqK
  have hes : evS l = readFs (ev0 K) (fieldsS (q + 1)) (l.drop 1) := by
    have : kindS l = q + 1 := by unfold kindS; rw [HX.out, HQX.out]
    unfold evS
    rw [this, hqK]
  have HES := hid hes
  have HGE := hid hge
  have g0 : (w1.alloc (.cells #[.int .i64 K, .int .i64 0, .int .i64 0, .int .i64 0, .int .i64 0, .int .i64 0, .slice none 0 0] 34)).cell? ⟨ge, 0, none⟩ = some (.int .i64 K) := by
    rw [← hge]
    exact (Blk.new w1 34 #[.int .i64 K, .int .i64 0, .int .i64 0, .int .i64 0, .int .i64 0, .int .i64 0, .slice none 0 0]).cell 0
  obtain ⟨wz, hwz⟩ : ∃ wz, w1.alloc (.cells #[.int .i64 K, .int .i64 0, .int .i64 0, .int .i64 0, .int .i64 0, .int .i64 0, .slice none 0 0] 34) = wz := ⟨_, rfl⟩
  rw [hwz] at ST g0
  have HWZ := hid hwz
  have HQ := hid hq
  have HKK := hid hK
  clear hwz hge hq hK
  go_upto_region 2 with (fail)
  rw [HQ.out, HKK.out, HWZ.out, HGE.out]
  clear HQ HKK
  obtain ⟨gr, hgr⟩ : ∃ gr, w.heap.size = gr := ⟨_, rfl⟩
  rw [hgr] at ST ⊢
  clear HWZ
  have HGR := hid hgr
  obtain ⟨l1, hl1⟩ : ∃ l1, l.drop 1 = l1 := ⟨_, rfl⟩
  rw [hl1] at ST HES
  clear r1 s1 hqx hks hqK hes hl1 hsz1
  rcases HKS.out with hq9 | hq9 | hq9 | hq9 | hq9 | hq9 | hq9 | hq9 | hq9 | hq9
  · obtain rfl : K = 1 := by rw [HQK.out, hq9]; rfl
    have HES := hid (show evS l = readFs (ev0 1) (fieldsS 1) l1 from by rw [HES.out, hq9])
    clear hq9
    have C1 := rf_num ST.out.rl 4 (by omega) (by omega)
    obtain ⟨y1, hy1⟩ : ∃ y, num 4 (l1) = y := ⟨_, rfl⟩
    rw [hy1] at C1
    have C1 := hid C1
    have HY1 := hid hy1
    clear hy1
    go_wp2_with fail
    refine C1.out.mono ?_
    rintro e0 w2 ⟨rfl, r1, s1⟩
    have T1 := hid (ST.out.read r1 s1)
    obtain ⟨_, _, _, z0, z1, z2, z3, z4, z5, z6, zf⟩ := T1.out.cells
    clear r1 s1
    have U1 : Hid (EvSt w (w2.setCell ⟨ge, 2, none⟩ (.int .i64 (y1 : Nat))) g ge gr (ge + 1) A c b ((l1).drop 4) ((k + 1) + 4) (putE (ev0 1) .who (y1 : Nat))) := hid (T1.out.put .who (by simp) _)
    have C2 := rf_num U1.out.rl 2 (by omega) (by omega)
    obtain ⟨y2, hy2⟩ : ∃ y, num 2 ((l1).drop 4) = y := ⟨_, rfl⟩
    rw [hy2] at C2
    have C2 := hid C2
    have HY2 := hid hy2
    clear hy2
    go_wp2_with fail
    refine C2.out.mono ?_
    rintro e0 w3 ⟨rfl, r2, s2⟩
    have T2 := hid (U1.out.read r2 s2)
    obtain ⟨_, _, _, z0, z1, z2, z3, z4, z5, z6, zf⟩ := T2.out.cells
    clear r2 s2
    have U2 : Hid (EvSt w (w3.setCell ⟨ge, 3, none⟩ (.int .i64 (y2 : Nat))) g ge gr (ge + 1) A c b (((l1).drop 4).drop 2) (((k + 1) + 4) + 2) (putE (putE (ev0 1) .who (y1 : Nat)) .port (y2 : Nat))) := hid (T2.out.put .port (by simp) _)
    have C3 := rf_bytes U2.out.rl (by omega)
    obtain ⟨y3, hy3⟩ : ∃ y, num 2 (((l1).drop 4).drop 2) % 4097 = y := ⟨_, rfl⟩
    rw [hy3] at C3
    have C3 := hid C3
    have HY3 := hid hy3
    clear hy3
    go_wp2_with fail
    refine C3.out.mono ?_
    rintro e0 w4 ⟨B3, d3, rfl, o3, r3, s3⟩
    have T3 := hid (U2.out.read r3 s3)
    have O3 : Hid (Own w4 (ge + 1) 5 B3 d3 (takeZ y3 ((((l1).drop 4).drop 2).drop 2))) := hid (OwnG.mono o3 (U2.out.top rfl))
    obtain ⟨_, _, _, z0, z1, z2, z3, z4, z5, z6, zf⟩ := T3.out.cells
    clear o3 r3 s3
    have U3 : Hid (EvSt w (w4.setCell ⟨ge, 6, none⟩ (.slice B3 y3 d3)) g ge gr (ge + 1) A c b (((((l1).drop 4).drop 2).drop 2).drop y3) ((((k + 1) + 4) + 2) + 5000) { (putE (putE (ev0 1) .who (y1 : Nat)) .port (y2 : Nat)) with b := takeZ y3 ((((l1).drop 4).drop 2).drop 2) }) := hid (T3.out.setB O3.out (takeZ_len _ _))
    obtain ⟨B9, d9, o9, k0, k1, k2, k3, k4, k5, k6, kf⟩ := U3.out.cells
    have r0 : ∀ i, _ := U3.out.rs.cell
    have rf := U3.out.rs.frozen
    have O9 := hid o9
    clear o9
    generalize hew : (w4.setCell ⟨ge, 6, none⟩ (.slice B3 y3 d3)) = wl at k0 k1 k2 k3 k4 k5 k6 kf r0 rf U3 O9
    have e9 : evS l = ({ (putE (putE (ev0 1) .who (y1 : Nat)) .port (y2 : Nat)) with b := takeZ y3 ((((l1).drop 4).drop 2).drop 2) }, ((((l1).drop 4).drop 2).drop 2).drop y3) := by
      rw [HES.out]
      rw [← HY3.out, ← HY2.out, ← HY1.out]
      rfl
    have E9 := hid e9
    clear e9
    generalize hee : { (putE (putE (ev0 1) .who (y1 : Nat)) .port (y2 : Nat)) with b := takeZ y3 ((((l1).drop 4).drop 2).drop 2) } = ee at k0 k1 k2 k3 k4 k5 k6 U3 O9 E9
    clear hee
    unfold zero7 at r0
    go_wp2_with fail
    refine bodyPost_ret (v := .agg (cellsE ee B9 d9)) (by simp [results, Try.results28, go_sem, r0, cellsE]) rfl ?_
    exact U3.out.done O9.out E9.out (by omega)
  · obtain rfl : K = 2 := by rw [HQK.out, hq9]; rfl
    have HES := hid (show evS l = readFs (ev0 2) (fieldsS 2) l1 from by rw [HES.out, hq9])
    clear hq9
    have C1 := rf_num ST.out.rl 1 (by omega) (by omega)
    obtain ⟨y1, hy1⟩ : ∃ y, num 1 (l1) = y := ⟨_, rfl⟩
    rw [hy1] at C1
    have C1 := hid C1
    have HY1 := hid hy1
    clear hy1
    go_wp2_with fail
    refine C1.out.mono ?_
    rintro e0 w2 ⟨rfl, r1, s1⟩
    have T1 := hid (ST.out.read r1 s1)
    obtain ⟨_, _, _, z0, z1, z2, z3, z4, z5, z6, zf⟩ := T1.out.cells
    clear r1 s1
    obtain ⟨v1, hv1, hvx1⟩ : ∃ v : Nat, (y1 : Int).tmod 4 = (v : Int) ∧ v = y1 % 4 := ⟨y1 % 4, by simp [Int.tmod_eq_emod_of_nonneg], rfl⟩
    have HV1 := hid hvx1
    clear hvx1
    have U1 : Hid (EvSt w (w2.setCell ⟨ge, 1, none⟩ (.int .i64 (v1 : Nat))) g ge gr (ge + 1) A c b ((l1).drop 1) ((k + 1) + 1) (putE (ev0 2) .sort (v1 : Nat))) := hid (T1.out.put .sort (by simp) _)
    have C2 := rf_num U1.out.rl 4 (by omega) (by omega)
    obtain ⟨y2, hy2⟩ : ∃ y, num 4 ((l1).drop 1) = y := ⟨_, rfl⟩
    rw [hy2] at C2
    have C2 := hid C2
    have HY2 := hid hy2
    clear hy2
    go_wp2_with fail
    refine C2.out.mono ?_
    rintro e0 w3 ⟨rfl, r2, s2⟩
    have T2 := hid (U1.out.read r2 s2)
    obtain ⟨_, _, _, z0, z1, z2, z3, z4, z5, z6, zf⟩ := T2.out.cells
    clear r2 s2
    have U2 : Hid (EvSt w (w3.setCell ⟨ge, 2, none⟩ (.int .i64 (y2 : Nat))) g ge gr (ge + 1) A c b (((l1).drop 1).drop 4) (((k + 1) + 1) + 4) (putE (putE (ev0 2) .sort (v1 : Nat)) .who (y2 : Nat))) := hid (T2.out.put .who (by simp) _)
    obtain ⟨B9, d9, o9, k0, k1, k2, k3, k4, k5, k6, kf⟩ := U2.out.cells
    have r0 : ∀ i, _ := U2.out.rs.cell
    have rf := U2.out.rs.frozen
    have O9 := hid o9
    clear o9
    generalize hew : (w3.setCell ⟨ge, 2, none⟩ (.int .i64 (y2 : Nat))) = wl at k0 k1 k2 k3 k4 k5 k6 kf r0 rf U2 O9
    have e9 : evS l = ((putE (putE (ev0 2) .sort (v1 : Nat)) .who (y2 : Nat)), ((l1).drop 1).drop 4) := by
      rw [HES.out]
      rw [← HY2.out, HV1.out, ← HY1.out]
      rfl
    have E9 := hid e9
    clear e9
    generalize hee : (putE (putE (ev0 2) .sort (v1 : Nat)) .who (y2 : Nat)) = ee at k0 k1 k2 k3 k4 k5 k6 U2 O9 E9
    clear hee
    unfold zero7 at r0
    go_wp2_with fail
    refine bodyPost_ret (v := .agg (cellsE ee B9 d9)) (by simp [results, Try.results28, go_sem, r0, cellsE]) rfl ?_
    exact U2.out.done O9.out E9.out (by omega)
  · obtain rfl : K = 3 := by rw [HQK.out, hq9]; rfl
    have HES := hid (show evS l = readFs (ev0 3) (fieldsS 3) l1 from by rw [HES.out, hq9])
    clear hq9
    have C1 := rf_num ST.out.rl 2 (by omega) (by omega)
    obtain ⟨y1, hy1⟩ : ∃ y, num 2 (l1) = y := ⟨_, rfl⟩
    rw [hy1] at C1
    have C1 := hid C1
    have HY1 := hid hy1
    clear hy1
    go_wp2_with fail
    refine C1.out.mono ?_
    rintro e0 w2 ⟨rfl, r1, s1⟩
    have T1 := hid (ST.out.read r1 s1)
    obtain ⟨_, _, _, z0, z1, z2, z3, z4, z5, z6, zf⟩ := T1.out.cells
    clear r1 s1
    have U1 : Hid (EvSt w (w2.setCell ⟨ge, 4, none⟩ (.int .i64 (y1 : Nat))) g ge gr (ge + 1) A c b ((l1).drop 2) ((k + 1) + 2) (putE (ev0 3) .conn (y1 : Nat))) := hid (T1.out.put .conn (by simp) _)
    have C2 := rf_bytes U1.out.rl (by omega)
    obtain ⟨y2, hy2⟩ : ∃ y, num 2 ((l1).drop 2) % 4097 = y := ⟨_, rfl⟩
    rw [hy2] at C2
    have C2 := hid C2
    have HY2 := hid hy2
    clear hy2
    go_wp2_with fail
    refine C2.out.mono ?_
    rintro e0 w3 ⟨B2, d2, rfl, o2, r2, s2⟩
    have T2 := hid (U1.out.read r2 s2)
    have O2 : Hid (Own w3 (ge + 1) 5 B2 d2 (takeZ y2 (((l1).drop 2).drop 2))) := hid (OwnG.mono o2 (U1.out.top rfl))
    obtain ⟨_, _, _, z0, z1, z2, z3, z4, z5, z6, zf⟩ := T2.out.cells
    clear o2 r2 s2
    have U2 : Hid (EvSt w (w3.setCell ⟨ge, 6, none⟩ (.slice B2 y2 d2)) g ge gr (ge + 1) A c b ((((l1).drop 2).drop 2).drop y2) (((k + 1) + 2) + 5000) { (putE (ev0 3) .conn (y1 : Nat)) with b := takeZ y2 (((l1).drop 2).drop 2) }) := hid (T2.out.setB O2.out (takeZ_len _ _))
    obtain ⟨B9, d9, o9, k0, k1, k2, k3, k4, k5, k6, kf⟩ := U2.out.cells
    have r0 : ∀ i, _ := U2.out.rs.cell
    have rf := U2.out.rs.frozen
    have O9 := hid o9
    clear o9
    generalize hew : (w3.setCell ⟨ge, 6, none⟩ (.slice B2 y2 d2)) = wl at k0 k1 k2 k3 k4 k5 k6 kf r0 rf U2 O9
    have e9 : evS l = ({ (putE (ev0 3) .conn (y1 : Nat)) with b := takeZ y2 (((l1).drop 2).drop 2) }, (((l1).drop 2).drop 2).drop y2) := by
      rw [HES.out]
      rw [← HY2.out, ← HY1.out]
      rfl
    have E9 := hid e9
    clear e9
    generalize hee : { (putE (ev0 3) .conn (y1 : Nat)) with b := takeZ y2 (((l1).drop 2).drop 2) } = ee at k0 k1 k2 k3 k4 k5 k6 U2 O9 E9
    clear hee
    unfold zero7 at r0
    go_wp2_with fail
    refine bodyPost_ret (v := .agg (cellsE ee B9 d9)) (by simp [results, Try.results28, go_sem, r0, cellsE]) rfl ?_
    exact U2.out.done O9.out E9.out (by omega)
  · obtain rfl : K = 4 := by rw [HQK.out, hq9]; rfl
    have HES := hid (show evS l = readFs (ev0 4) (fieldsS 4) l1 from by rw [HES.out, hq9])
    clear hq9
    have C1 := rf_num ST.out.rl 2 (by omega) (by omega)
    obtain ⟨y1, hy1⟩ : ∃ y, num 2 (l1) = y := ⟨_, rfl⟩
    rw [hy1] at C1
    have C1 := hid C1
    have HY1 := hid hy1
    clear hy1
    go_wp2_with fail
    refine C1.out.mono ?_
    rintro e0 w2 ⟨rfl, r1, s1⟩
    have T1 := hid (ST.out.read r1 s1)
    obtain ⟨_, _, _, z0, z1, z2, z3, z4, z5, z6, zf⟩ := T1.out.cells
    clear r1 s1
    have U1 : Hid (EvSt w (w2.setCell ⟨ge, 4, none⟩ (.int .i64 (y1 : Nat))) g ge gr (ge + 1) A c b ((l1).drop 2) ((k + 1) + 2) (putE (ev0 4) .conn (y1 : Nat))) := hid (T1.out.put .conn (by simp) _)
    obtain ⟨B9, d9, o9, k0, k1, k2, k3, k4, k5, k6, kf⟩ := U1.out.cells
    have r0 : ∀ i, _ := U1.out.rs.cell
    have rf := U1.out.rs.frozen
    have O9 := hid o9
    clear o9
    generalize hew : (w2.setCell ⟨ge, 4, none⟩ (.int .i64 (y1 : Nat))) = wl at k0 k1 k2 k3 k4 k5 k6 kf r0 rf U1 O9
    have e9 : evS l = ((putE (ev0 4) .conn (y1 : Nat)), (l1).drop 2) := by
      rw [HES.out]
      rw [← HY1.out]
      rfl
    have E9 := hid e9
    clear e9
    generalize hee : (putE (ev0 4) .conn (y1 : Nat)) = ee at k0 k1 k2 k3 k4 k5 k6 U1 O9 E9
    clear hee
    unfold zero7 at r0
    go_wp2_with fail
    refine bodyPost_ret (v := .agg (cellsE ee B9 d9)) (by simp [results, Try.results28, go_sem, r0, cellsE]) rfl ?_
    exact U1.out.done O9.out E9.out (by omega)
  · obtain rfl : K = 5 := by rw [HQK.out, hq9]; rfl
    have HES := hid (show evS l = readFs (ev0 5) (fieldsS 5) l1 from by rw [HES.out, hq9])
    clear hq9
    have C1 := rf_num ST.out.rl 2 (by omega) (by omega)
    obtain ⟨y1, hy1⟩ : ∃ y, num 2 (l1) = y := ⟨_, rfl⟩
    rw [hy1] at C1
    have C1 := hid C1
    have HY1 := hid hy1
    clear hy1
    go_wp2_with fail
    refine C1.out.mono ?_
    rintro e0 w2 ⟨rfl, r1, s1⟩
    have T1 := hid (ST.out.read r1 s1)
    obtain ⟨_, _, _, z0, z1, z2, z3, z4, z5, z6, zf⟩ := T1.out.cells
    clear r1 s1
    have U1 : Hid (EvSt w (w2.setCell ⟨ge, 4, none⟩ (.int .i64 (y1 : Nat))) g ge gr (ge + 1) A c b ((l1).drop 2) ((k + 1) + 2) (putE (ev0 5) .conn (y1 : Nat))) := hid (T1.out.put .conn (by simp) _)
    have C2 := rf_num U1.out.rl 2 (by omega) (by omega)
    obtain ⟨y2, hy2⟩ : ∃ y, num 2 ((l1).drop 2) = y := ⟨_, rfl⟩
    rw [hy2] at C2
    have C2 := hid C2
    have HY2 := hid hy2
    clear hy2
    go_wp2_with fail
    refine C2.out.mono ?_
    rintro e0 w3 ⟨rfl, r2, s2⟩
    have T2 := hid (U1.out.read r2 s2)
    obtain ⟨_, _, _, z0, z1, z2, z3, z4, z5, z6, zf⟩ := T2.out.cells
    clear r2 s2
    have U2 : Hid (EvSt w (w3.setCell ⟨ge, 5, none⟩ (.int .i64 (y2 : Nat))) g ge gr (ge + 1) A c b (((l1).drop 2).drop 2) (((k + 1) + 2) + 2) (putE (putE (ev0 5) .conn (y1 : Nat)) .n (y2 : Nat))) := hid (T2.out.put .n (by simp) _)
    obtain ⟨B9, d9, o9, k0, k1, k2, k3, k4, k5, k6, kf⟩ := U2.out.cells
    have r0 : ∀ i, _ := U2.out.rs.cell
    have rf := U2.out.rs.frozen
    have O9 := hid o9
    clear o9
    generalize hew : (w3.setCell ⟨ge, 5, none⟩ (.int .i64 (y2 : Nat))) = wl at k0 k1 k2 k3 k4 k5 k6 kf r0 rf U2 O9
    have e9 : evS l = ((putE (putE (ev0 5) .conn (y1 : Nat)) .n (y2 : Nat)), ((l1).drop 2).drop 2) := by
      rw [HES.out]
      rw [← HY2.out, ← HY1.out]
      rfl
    have E9 := hid e9
    clear e9
    generalize hee : (putE (putE (ev0 5) .conn (y1 : Nat)) .n (y2 : Nat)) = ee at k0 k1 k2 k3 k4 k5 k6 U2 O9 E9
    clear hee
    unfold zero7 at r0
    go_wp2_with fail
    refine bodyPost_ret (v := .agg (cellsE ee B9 d9)) (by simp [results, Try.results28, go_sem, r0, cellsE]) rfl ?_
    exact U2.out.done O9.out E9.out (by omega)
  · obtain rfl : K = 6 := by rw [HQK.out, hq9]; rfl
    have HES := hid (show evS l = readFs (ev0 6) (fieldsS 6) l1 from by rw [HES.out, hq9])
    clear hq9
    have C1 := rf_num ST.out.rl 2 (by omega) (by omega)
    obtain ⟨y1, hy1⟩ : ∃ y, num 2 (l1) = y := ⟨_, rfl⟩
    rw [hy1] at C1
    have C1 := hid C1
    have HY1 := hid hy1
    clear hy1
    go_wp2_with fail
    refine C1.out.mono ?_
    rintro e0 w2 ⟨rfl, r1, s1⟩
    have T1 := hid (ST.out.read r1 s1)
    obtain ⟨_, _, _, z0, z1, z2, z3, z4, z5, z6, zf⟩ := T1.out.cells
    clear r1 s1
    have U1 : Hid (EvSt w (w2.setCell ⟨ge, 5, none⟩ (.int .i64 (y1 : Nat))) g ge gr (ge + 1) A c b ((l1).drop 2) ((k + 1) + 2) (putE (ev0 6) .n (y1 : Nat))) := hid (T1.out.put .n (by simp) _)
    obtain ⟨B9, d9, o9, k0, k1, k2, k3, k4, k5, k6, kf⟩ := U1.out.cells
    have r0 : ∀ i, _ := U1.out.rs.cell
    have rf := U1.out.rs.frozen
    have O9 := hid o9
    clear o9
    generalize hew : (w2.setCell ⟨ge, 5, none⟩ (.int .i64 (y1 : Nat))) = wl at k0 k1 k2 k3 k4 k5 k6 kf r0 rf U1 O9
    have e9 : evS l = ((putE (ev0 6) .n (y1 : Nat)), (l1).drop 2) := by
      rw [HES.out]
      rw [← HY1.out]
      rfl
    have E9 := hid e9
    clear e9
    generalize hee : (putE (ev0 6) .n (y1 : Nat)) = ee at k0 k1 k2 k3 k4 k5 k6 U1 O9 E9
    clear hee
    unfold zero7 at r0
    go_wp2_with fail
    refine bodyPost_ret (v := .agg (cellsE ee B9 d9)) (by simp [results, Try.results28, go_sem, r0, cellsE]) rfl ?_
    exact U1.out.done O9.out E9.out (by omega)
  · obtain rfl : K = 7 := by rw [HQK.out, hq9]; rfl
    have HES := hid (show evS l = readFs (ev0 7) (fieldsS 7) l1 from by rw [HES.out, hq9])
    clear hq9
    have C1 := rf_num ST.out.rl 2 (by omega) (by omega)
    obtain ⟨y1, hy1⟩ : ∃ y, num 2 (l1) = y := ⟨_, rfl⟩
    rw [hy1] at C1
    have C1 := hid C1
    have HY1 := hid hy1
    clear hy1
    go_wp2_with fail
    refine C1.out.mono ?_
    rintro e0 w2 ⟨rfl, r1, s1⟩
    have T1 := hid (ST.out.read r1 s1)
    obtain ⟨_, _, _, z0, z1, z2, z3, z4, z5, z6, zf⟩ := T1.out.cells
    clear r1 s1
    have U1 : Hid (EvSt w (w2.setCell ⟨ge, 5, none⟩ (.int .i64 (y1 : Nat))) g ge gr (ge + 1) A c b ((l1).drop 2) ((k + 1) + 2) (putE (ev0 7) .n (y1 : Nat))) := hid (T1.out.put .n (by simp) _)
    obtain ⟨B9, d9, o9, k0, k1, k2, k3, k4, k5, k6, kf⟩ := U1.out.cells
    have r0 : ∀ i, _ := U1.out.rs.cell
    have rf := U1.out.rs.frozen
    have O9 := hid o9
    clear o9
    generalize hew : (w2.setCell ⟨ge, 5, none⟩ (.int .i64 (y1 : Nat))) = wl at k0 k1 k2 k3 k4 k5 k6 kf r0 rf U1 O9
    have e9 : evS l = ((putE (ev0 7) .n (y1 : Nat)), (l1).drop 2) := by
      rw [HES.out]
      rw [← HY1.out]
      rfl
    have E9 := hid e9
    clear e9
    generalize hee : (putE (ev0 7) .n (y1 : Nat)) = ee at k0 k1 k2 k3 k4 k5 k6 U1 O9 E9
    clear hee
    unfold zero7 at r0
    go_wp2_with fail
    refine bodyPost_ret (v := .agg (cellsE ee B9 d9)) (by simp [results, Try.results28, go_sem, r0, cellsE]) rfl ?_
    exact U1.out.done O9.out E9.out (by omega)
  · obtain rfl : K = 8 := by rw [HQK.out, hq9]; rfl
    have HES := hid (show evS l = readFs (ev0 8) (fieldsS 8) l1 from by rw [HES.out, hq9])
    clear hq9
    have C1 := rf_num ST.out.rl 4 (by omega) (by omega)
    obtain ⟨y1, hy1⟩ : ∃ y, num 4 (l1) = y := ⟨_, rfl⟩
    rw [hy1] at C1
    have C1 := hid C1
    have HY1 := hid hy1
    clear hy1
    go_wp2_with fail
    refine C1.out.mono ?_
    rintro e0 w2 ⟨rfl, r1, s1⟩
    have T1 := hid (ST.out.read r1 s1)
    obtain ⟨_, _, _, z0, z1, z2, z3, z4, z5, z6, zf⟩ := T1.out.cells
    clear r1 s1
    have U1 : Hid (EvSt w (w2.setCell ⟨ge, 2, none⟩ (.int .i64 (y1 : Nat))) g ge gr (ge + 1) A c b ((l1).drop 4) ((k + 1) + 4) (putE (ev0 8) .who (y1 : Nat))) := hid (T1.out.put .who (by simp) _)
    have C2 := rf_num U1.out.rl 2 (by omega) (by omega)
    obtain ⟨y2, hy2⟩ : ∃ y, num 2 ((l1).drop 4) = y := ⟨_, rfl⟩
    rw [hy2] at C2
    have C2 := hid C2
    have HY2 := hid hy2
    clear hy2
    go_wp2_with fail
    refine C2.out.mono ?_
    rintro e0 w3 ⟨rfl, r2, s2⟩
    have T2 := hid (U1.out.read r2 s2)
    obtain ⟨_, _, _, z0, z1, z2, z3, z4, z5, z6, zf⟩ := T2.out.cells
    clear r2 s2
    have U2 : Hid (EvSt w (w3.setCell ⟨ge, 3, none⟩ (.int .i64 (y2 : Nat))) g ge gr (ge + 1) A c b (((l1).drop 4).drop 2) (((k + 1) + 4) + 2) (putE (putE (ev0 8) .who (y1 : Nat)) .port (y2 : Nat))) := hid (T2.out.put .port (by simp) _)
    have C3 := rf_bytes U2.out.rl (by omega)
    obtain ⟨y3, hy3⟩ : ∃ y, num 2 (((l1).drop 4).drop 2) % 4097 = y := ⟨_, rfl⟩
    rw [hy3] at C3
    have C3 := hid C3
    have HY3 := hid hy3
    clear hy3
    go_wp2_with fail
    refine C3.out.mono ?_
    rintro e0 w4 ⟨B3, d3, rfl, o3, r3, s3⟩
    have T3 := hid (U2.out.read r3 s3)
    have O3 : Hid (Own w4 (ge + 1) 5 B3 d3 (takeZ y3 ((((l1).drop 4).drop 2).drop 2))) := hid (OwnG.mono o3 (U2.out.top rfl))
    obtain ⟨_, _, _, z0, z1, z2, z3, z4, z5, z6, zf⟩ := T3.out.cells
    clear o3 r3 s3
    have U3 : Hid (EvSt w (w4.setCell ⟨ge, 6, none⟩ (.slice B3 y3 d3)) g ge gr (ge + 1) A c b (((((l1).drop 4).drop 2).drop 2).drop y3) ((((k + 1) + 4) + 2) + 5000) { (putE (putE (ev0 8) .who (y1 : Nat)) .port (y2 : Nat)) with b := takeZ y3 ((((l1).drop 4).drop 2).drop 2) }) := hid (T3.out.setB O3.out (takeZ_len _ _))
    obtain ⟨B9, d9, o9, k0, k1, k2, k3, k4, k5, k6, kf⟩ := U3.out.cells
    have r0 : ∀ i, _ := U3.out.rs.cell
    have rf := U3.out.rs.frozen
    have O9 := hid o9
    clear o9
    generalize hew : (w4.setCell ⟨ge, 6, none⟩ (.slice B3 y3 d3)) = wl at k0 k1 k2 k3 k4 k5 k6 kf r0 rf U3 O9
    have e9 : evS l = ({ (putE (putE (ev0 8) .who (y1 : Nat)) .port (y2 : Nat)) with b := takeZ y3 ((((l1).drop 4).drop 2).drop 2) }, ((((l1).drop 4).drop 2).drop 2).drop y3) := by
      rw [HES.out]
      rw [← HY3.out, ← HY2.out, ← HY1.out]
      rfl
    have E9 := hid e9
    clear e9
    generalize hee : { (putE (putE (ev0 8) .who (y1 : Nat)) .port (y2 : Nat)) with b := takeZ y3 ((((l1).drop 4).drop 2).drop 2) } = ee at k0 k1 k2 k3 k4 k5 k6 U3 O9 E9
    clear hee
    unfold zero7 at r0
    go_wp2_with fail
    refine bodyPost_ret (v := .agg (cellsE ee B9 d9)) (by simp [results, Try.results28, go_sem, r0, cellsE]) rfl ?_
    exact U3.out.done O9.out E9.out (by omega)
  · obtain rfl : K = 9 := by rw [HQK.out, hq9]; rfl
    have HES := hid (show evS l = readFs (ev0 9) (fieldsS 9) l1 from by rw [HES.out, hq9])
    clear hq9
    have C1 := rf_num ST.out.rl 2 (by omega) (by omega)
    obtain ⟨y1, hy1⟩ : ∃ y, num 2 (l1) = y := ⟨_, rfl⟩
    rw [hy1] at C1
    have C1 := hid C1
    have HY1 := hid hy1
    clear hy1
    go_wp2_with fail
    refine C1.out.mono ?_
    rintro e0 w2 ⟨rfl, r1, s1⟩
    have T1 := hid (ST.out.read r1 s1)
    obtain ⟨_, _, _, z0, z1, z2, z3, z4, z5, z6, zf⟩ := T1.out.cells
    clear r1 s1
    have U1 : Hid (EvSt w (w2.setCell ⟨ge, 5, none⟩ (.int .i64 (y1 : Nat))) g ge gr (ge + 1) A c b ((l1).drop 2) ((k + 1) + 2) (putE (ev0 9) .n (y1 : Nat))) := hid (T1.out.put .n (by simp) _)
    have C2 := rf_bytes U1.out.rl (by omega)
    obtain ⟨y2, hy2⟩ : ∃ y, num 2 ((l1).drop 2) % 4097 = y := ⟨_, rfl⟩
    rw [hy2] at C2
    have C2 := hid C2
    have HY2 := hid hy2
    clear hy2
    go_wp2_with fail
    refine C2.out.mono ?_
    rintro e0 w3 ⟨B2, d2, rfl, o2, r2, s2⟩
    have T2 := hid (U1.out.read r2 s2)
    have O2 : Hid (Own w3 (ge + 1) 5 B2 d2 (takeZ y2 (((l1).drop 2).drop 2))) := hid (OwnG.mono o2 (U1.out.top rfl))
    obtain ⟨_, _, _, z0, z1, z2, z3, z4, z5, z6, zf⟩ := T2.out.cells
    clear o2 r2 s2
    have U2 : Hid (EvSt w (w3.setCell ⟨ge, 6, none⟩ (.slice B2 y2 d2)) g ge gr (ge + 1) A c b ((((l1).drop 2).drop 2).drop y2) (((k + 1) + 2) + 5000) { (putE (ev0 9) .n (y1 : Nat)) with b := takeZ y2 (((l1).drop 2).drop 2) }) := hid (T2.out.setB O2.out (takeZ_len _ _))
    obtain ⟨B9, d9, o9, k0, k1, k2, k3, k4, k5, k6, kf⟩ := U2.out.cells
    have r0 : ∀ i, _ := U2.out.rs.cell
    have rf := U2.out.rs.frozen
    have O9 := hid o9
    clear o9
    generalize hew : (w3.setCell ⟨ge, 6, none⟩ (.slice B2 y2 d2)) = wl at k0 k1 k2 k3 k4 k5 k6 kf r0 rf U2 O9
    have e9 : evS l = ({ (putE (ev0 9) .n (y1 : Nat)) with b := takeZ y2 (((l1).drop 2).drop 2) }, (((l1).drop 2).drop 2).drop y2) := by
      rw [HES.out]
      rw [← HY2.out, ← HY1.out]
      rfl
    have E9 := hid e9
    clear e9
    generalize hee : { (putE (ev0 9) .n (y1 : Nat)) with b := takeZ y2 (((l1).drop 2).drop 2) } = ee at k0 k1 k2 k3 k4 k5 k6 U2 O9 E9
    clear hee
    unfold zero7 at r0
    go_wp2_with fail
    refine bodyPost_ret (v := .agg (cellsE ee B9 d9)) (by simp [results, Try.results28, go_sem, r0, cellsE]) rfl ?_
    exact U2.out.done O9.out E9.out (by omega)
  · obtain rfl : K = 10 := by rw [HQK.out, hq9]; rfl
    have HES := hid (show evS l = readFs (ev0 10) (fieldsS 10) l1 from by rw [HES.out, hq9])
    clear hq9
    go_upto_region 25 with (fail)
    clear g0
    obtain ⟨B9, d9, o9, k0, k1, k2, k3, k4, k5, k6, kf⟩ := ST.out.cells
    have r0 : ∀ i, _ := ST.out.rs.cell
    have rf := ST.out.rs.frozen
    have O9 := hid o9
    clear o9
    skip
    have e9 : evS l = ((ev0 10), l1) := by
      rw [HES.out]
      rfl
    have E9 := hid e9
    clear e9
    generalize hee : (ev0 10) = ee at k0 k1 k2 k3 k4 k5 k6 ST O9 E9
    clear hee
    unfold zero7 at r0
    go_wp2_with fail
    refine bodyPost_ret (v := .agg (cellsE ee B9 d9)) (by simp [results, Try.results28, go_sem, r0, cellsE]) rfl ?_
    exact ST.out.done O9.out E9.out (by omega)
end
end Go.Proofs.Ytholjbnggnfapaa

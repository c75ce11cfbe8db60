import Derived.Test.YtcddfenhkljpeaaCsF
/- Layer 23: the document's Get. (Printed by gen_chcbl.py.) -/
namespace Go.Proofs.Ytcddfenhkljpeaa
open Go.BK Go.BK.CH Go.BK.NM Go.RowKit Go.Maps
set_option linter.unusedVariables false
set_option linter.unusedSimpArgs false
/-- What the document's Get answers. -/
def RgD (V : Nat → Prop) (w w' : World) (g : Nat) (most : Int) (s : StC) (f : FoundS) (e : Ending) : Prop :=
  ∃ A c, e = .returned (foundV f A c) ∧ OwnG isT w' w.heap.size 9 1 A f.s.data.length c (tvs f.s.data) ∧ RsV (More V w) w' g most s ∧ Shy (fun k => k = g) w w'
section
variable {w w' : World} {g : Nat} {most now : Int} {A : Option Addr} {c : Nat} {T : List TRow}
theorem get_fin (h : RefC w g most now A c T) {V : Nat → Prop} (hV : V g ∧ (0 < T.length → ∀ k, blk A = some k → V k) ∧ ∀ t ∈ T, 0 < (setOf t.e.x).data.length → ∀ k, blk t.A = some k → V k) {w5 w6 : World} {gr : Nat} (hgr : w.heap.size = gr) {tm : Int} {A5 : Option Addr} {c5 : Nat} {T5 : List TRow}
    (H : RefC w5 g most tm A5 c5 T5) (S : Shy (fun k => k = g) w w5) (s : Shy (fun k => k = gr) w5 w6) (hA5 : (A5 = A ∧ T5 = T) ∨ ∀ k, blk A5 = some k → gr < k) (hT5 : ∀ t ∈ T5, t ∈ T) :
    RsV (More V w) w6 g most ⟨tm, T5.map (·.e)⟩ ∧ Shy (fun k => k = g) w w6 := by
  have hg := h.b.lt
  refine ⟨⟨A5, c5, T5, H.off s (by omega) (fun h0 k hk e => ?_) (fun t ht h0 k hk e => ?_), rfl, .inl hV.1, fun h0 k hk => ?_, fun t ht h0 k hk => .inl (hV.2.2 t (hT5 t ht) h0 k hk)⟩, S.trans s (fun k hk e => by omega)⟩
  · rcases hA5 with ⟨rfl, rfl⟩ | h1
    · obtain ⟨b, h2, h3⟩ := h.r.lt h0
      rw [hk] at h2
      have := Option.some.inj h2
      omega
    · have := h1 k hk
      omega
  · obtain ⟨b, h2, h3⟩ := (h.d t (hT5 t ht)).lt h0
    rw [hk] at h2
    have := Option.some.inj h2
    omega
  · rcases hA5 with ⟨rfl, rfl⟩ | h1
    · exact .inl (hV.2.1 h0 k hk)
    · exact .inr (by have := h1 k hk; omega)
theorem backT_mem {i : Nat} (hi : i < T.length) : ∀ t ∈ backT T i, t ∈ T := by
  intro t ht
  unfold backT at ht
  rcases List.mem_append.1 ht with h | h
  · rcases List.mem_append.1 h with h | h
    · exact List.mem_of_mem_take h
    · exact List.mem_of_mem_drop h
  · obtain rfl := List.mem_singleton.1 h
    exact getT_mem hi
theorem found_none {e : Ent} {kind tm : Int} (h : isOf e.x = false) : foundT e kind tm = ⟨if kind = 0 then 3 else 2, zeroS, e.x.till - tm⟩ := by
  obtain ⟨a, b, y⟩ := e
  cases y with
  | none t => rfl
  | known s rk t => cases h
theorem found_known {e : Ent} {kind tm : Int} (h : isOf e.x = true) : foundT e kind tm = ⟨1, ⟨(setOf e.x).nm, (setOf e.x).ty, (setOf e.x).cl, e.x.till - tm, (setOf e.x).data⟩, e.x.till - tm⟩ := by
  obtain ⟨a, b, y⟩ := e
  cases y with
  | none t => cases h
  | known s rk t => rfl
theorem ent_data {e : Ent} (h : EntOk e) (h2 : isOf e.x = true) : (setOf e.x).data.length ≤ 64 := by
  obtain ⟨a, b, y⟩ := e
  cases y with
  | none t => cases h2
  | known s rk t => exact (h.2.2 s rk t rfl).2.2
theorem cells10 (r : TRow) : ∃ rn rk0 tl ib sn sty scl sttl rA sl rc rrk, (cellsT r).toArray = #[.string rn, .int .i64 rk0, .int .i64 tl, .bool ib, .string sn, .int .i64 sty, .int .i64 scl, .int .i64 sttl, .slice rA sl rc, .int .i64 rrk] ∧ r.e.x.till = tl ∧ isOf r.e.x = ib ∧ rankOf r.e.x = rrk ∧ sn = str (setOf r.e.x).nm ∧ sty = (setOf r.e.x).ty ∧ scl = (setOf r.e.x).cl ∧ rA = r.A ∧ sl = (setOf r.e.x).data.length ∧ rc = r.c :=
  ⟨_, _, _, _, _, _, _, _, _, _, _, _, rfl, rfl, rfl, rfl, rfl, rfl, rfl, rfl, rfl, rfl⟩
set_option maxHeartbeats 4000000 in
set_option maxRecDepth 100000 in
theorem rget_bad1 (h : RefC w g most now A c T) {V : Nat → Prop} (hV : V g ∧ (0 < T.length → ∀ k, blk A = some k → V k) ∧ ∀ t ∈ T, 0 < (setOf t.e.x).data.length → ∀ k, blk t.A = some k → V k) {n : List UInt8} {kind rank at_ : Int} (hn : n.length ≤ 2000000) (hc : checkS n ≠ 0) :
    Calls Try.prog 23 #[pt g, .string (str n), .int .i64 kind, .int .i64 rank, .int .i64 at_] w fun e w' => RgD V w w' g most ⟨now, T.map (·.e)⟩ ⟨0, zeroS, 0⟩ e := by
  have CCH := (fun W => ref_check n W hn)
  obtain ⟨q, hq⟩ : ∃ q, checkS n = q := ⟨_, rfl⟩
  rw [hq] at hc
  rw [show (∀ W, Calls Try.prog 48 #[.string (str n)] W fun e w' => e = .returned (.int .i64 (checkS n)) ∧ Ext W w') = (∀ W, Calls Try.prog 48 #[.string (str n)] W fun e w' => e = .returned (.int .i64 q) ∧ Ext W w') from by rw [hq]] at CCH
  have CCH := hid CCH
  have b1 : (q == 0) = false := by simpa using hc
  have b2 : (q != 0) = true := by simpa using hc
  clear hc hq
  have xa := ext_alloc w (.cells #[.int .i64 0, .string ⟨#[]⟩, .int .i64 0, .int .i64 0, .int .i64 0, .slice none 0 0, .int .i64 0] 37)
  have br := Blk.new w 37 #[.int .i64 0, .string ⟨#[]⟩, .int .i64 0, .int .i64 0, .int .i64 0, .slice none 0 0, .int .i64 0]
  obtain ⟨wa, hwa⟩ : ∃ wa, w.alloc (.cells #[.int .i64 0, .string ⟨#[]⟩, .int .i64 0, .int .i64 0, .int .i64 0, .slice none 0 0, .int .i64 0] 37) = wa := ⟨_, rfl⟩
  obtain ⟨gr, hgr⟩ : ∃ gr, w.heap.size = gr := ⟨_, rfl⟩
  rw [hwa] at xa br
  rw [hgr] at br
  have HH := hid h
  have H1 := hid (h.ext xa)
  have XA := hid xa
  have BR := hid br
  have HWA := hid hwa
  have HGR := hid hgr
  simp only [pt]
  clear h xa br hwa hgr hn
  go_enter Try.func23, Try.ntmps23
  go_upto_region 1 with (fail)
  rw [HWA.out, HGR.out]
  go_wp2_with fail
  refine (CCH.out _).mono ?_
  rintro e w1 ⟨rfl, x1⟩
  have H2 := hid (H1.out.ext x1)
  have BR2 := hid (BR.out.ext x1)
  have X1 := hid (ext_trans XA.out x1)
  clear x1 H1 BR
  have rc0 := BR2.out.cell 0
  have rc1 := BR2.out.cell 1
  have rc2 := BR2.out.cell 2
  have rc3 := BR2.out.cell 3
  have rc4 := BR2.out.cell 4
  have rc5 := BR2.out.cell 5
  have rc6 := BR2.out.cell 6
  simp at rc0 rc1 rc2 rc3 rc4 rc5 rc6
  have rf := BR2.out.frozen
  go_wp2_with fail
  have sF : Shy (fun k => k = gr) w1 (((((((w1.setCell ⟨gr, 0, none⟩ (.int .i64 0)).setCell ⟨gr, 1, none⟩ (.string ⟨#[]⟩)).setCell ⟨gr, 2, none⟩ (.int .i64 0)).setCell ⟨gr, 3, none⟩ (.int .i64 0)).setCell ⟨gr, 4, none⟩ (.int .i64 0)).setCell ⟨gr, 5, none⟩ (.slice none 0 0)).setCell ⟨gr, 6, none⟩ (.int .i64 0)) := ((((((((Shy.refl w1 (U := fun k => k = gr)).set (b := gr) (fun _ => rfl) 0 (.int .i64 0)).set (b := gr) (fun _ => rfl) 1 (.string ⟨#[]⟩)).set (b := gr) (fun _ => rfl) 2 (.int .i64 0)).set (b := gr) (fun _ => rfl) 3 (.int .i64 0)).set (b := gr) (fun _ => rfl) 4 (.int .i64 0)).set (b := gr) (fun _ => rfl) 5 (.slice none 0 0)).set (b := gr) (fun _ => rfl) 6 (.int .i64 0))
  have bF := (((((((BR2.out.set_ 0 (.int .i64 0)).set_ 1 (.string ⟨#[]⟩)).set_ 2 (.int .i64 0)).set_ 3 (.int .i64 0)).set_ 4 (.int .i64 0)).set_ 5 (.slice none 0 0)).set_ 6 (.int .i64 0))
  obtain ⟨wF, hwF⟩ : ∃ wF, (((((((w1.setCell ⟨gr, 0, none⟩ (.int .i64 0)).setCell ⟨gr, 1, none⟩ (.string ⟨#[]⟩)).setCell ⟨gr, 2, none⟩ (.int .i64 0)).setCell ⟨gr, 3, none⟩ (.int .i64 0)).setCell ⟨gr, 4, none⟩ (.int .i64 0)).setCell ⟨gr, 5, none⟩ (.slice none 0 0)).setCell ⟨gr, 6, none⟩ (.int .i64 0)) = wF := ⟨_, rfl⟩
  rw [hwF] at sF bF ⊢
  clear hwF rf rc0 rc1 rc2 rc3 rc4 rc5 rc6
  have f0 := bF.cell 0
  have f1 := bF.cell 1
  have f2 := bF.cell 2
  have f3 := bF.cell 3
  have f4 := bF.cell 4
  have f5 := bF.cell 5
  have f6 := bF.cell 6
  simp at f0 f1 f2 f3 f4 f5 f6
  refine bodyPost_ret (by simp [results, Try.results23, go_sem, f0, f1, f2, f3, f4, f5, f6]; rfl) rfl ?_
  have fin := get_fin HH.out hV HGR.out H2.out (Shy.of_ext X1.out) sF (.inl ⟨rfl, rfl⟩) (fun t ht => ht)
  exact ⟨none, 0, rfl, OwnG.nil _ _ _ _ _, fin.1, fin.2⟩
set_option maxHeartbeats 4000000 in
set_option maxRecDepth 100000 in
theorem rget_bad2 (h : RefC w g most now A c T) {V : Nat → Prop} (hV : V g ∧ (0 < T.length → ∀ k, blk A = some k → V k) ∧ ∀ t ∈ T, 0 < (setOf t.e.x).data.length → ∀ k, blk t.A = some k → V k) {n : List UInt8} {kind rank at_ : Int} (hn : n.length ≤ 2000000) (hc : checkS n = 0) (hat : ¬ inTime at_) :
    Calls Try.prog 23 #[pt g, .string (str n), .int .i64 kind, .int .i64 rank, .int .i64 at_] w fun e w' => RgD V w w' g most ⟨now, T.map (·.e)⟩ ⟨0, zeroS, 0⟩ e := by
  have CCH := (fun W => ref_check n W hn)
  obtain ⟨q, hq⟩ : ∃ q, checkS n = q := ⟨_, rfl⟩
  rw [hq] at hc
  rw [show (∀ W, Calls Try.prog 48 #[.string (str n)] W fun e w' => e = .returned (.int .i64 (checkS n)) ∧ Ext W w') = (∀ W, Calls Try.prog 48 #[.string (str n)] W fun e w' => e = .returned (.int .i64 q) ∧ Ext W w') from by rw [hq]] at CCH
  have CCH := hid CCH
  have b1 : (q == 0) = true := by simp [hc]
  have b2 : (q != 0) = false := by simp [hc]
  have CWI := fun W => rtime_in at_ W
  rw [decide_eq_false hat] at CWI
  have CWI := hid CWI
  clear hc hq
  have xa := ext_alloc w (.cells #[.int .i64 0, .string ⟨#[]⟩, .int .i64 0, .int .i64 0, .int .i64 0, .slice none 0 0, .int .i64 0] 37)
  have br := Blk.new w 37 #[.int .i64 0, .string ⟨#[]⟩, .int .i64 0, .int .i64 0, .int .i64 0, .slice none 0 0, .int .i64 0]
  obtain ⟨wa, hwa⟩ : ∃ wa, w.alloc (.cells #[.int .i64 0, .string ⟨#[]⟩, .int .i64 0, .int .i64 0, .int .i64 0, .slice none 0 0, .int .i64 0] 37) = wa := ⟨_, rfl⟩
  obtain ⟨gr, hgr⟩ : ∃ gr, w.heap.size = gr := ⟨_, rfl⟩
  rw [hwa] at xa br
  rw [hgr] at br
  have HH := hid h
  have H1 := hid (h.ext xa)
  have XA := hid xa
  have BR := hid br
  have HWA := hid hwa
  have HGR := hid hgr
  simp only [pt]
  clear h xa br hwa hgr hn
  go_enter Try.func23, Try.ntmps23
  go_upto_region 1 with (fail)
  rw [HWA.out, HGR.out]
  go_wp2_with fail
  refine (CCH.out _).mono ?_
  rintro e w1 ⟨rfl, x1⟩
  have H2 := hid (H1.out.ext x1)
  have BR2 := hid (BR.out.ext x1)
  have X1 := hid (ext_trans XA.out x1)
  clear x1 H1 BR
  go_wp2_with fail
  refine (CWI.out _).mono ?_
  rintro e _ ⟨rfl, rfl⟩
  have rc0 := BR2.out.cell 0
  have rc1 := BR2.out.cell 1
  have rc2 := BR2.out.cell 2
  have rc3 := BR2.out.cell 3
  have rc4 := BR2.out.cell 4
  have rc5 := BR2.out.cell 5
  have rc6 := BR2.out.cell 6
  simp at rc0 rc1 rc2 rc3 rc4 rc5 rc6
  have rf := BR2.out.frozen
  go_wp2_with fail
  have sF : Shy (fun k => k = gr) w1 (((((((w1.setCell ⟨gr, 0, none⟩ (.int .i64 0)).setCell ⟨gr, 1, none⟩ (.string ⟨#[]⟩)).setCell ⟨gr, 2, none⟩ (.int .i64 0)).setCell ⟨gr, 3, none⟩ (.int .i64 0)).setCell ⟨gr, 4, none⟩ (.int .i64 0)).setCell ⟨gr, 5, none⟩ (.slice none 0 0)).setCell ⟨gr, 6, none⟩ (.int .i64 0)) := ((((((((Shy.refl w1 (U := fun k => k = gr)).set (b := gr) (fun _ => rfl) 0 (.int .i64 0)).set (b := gr) (fun _ => rfl) 1 (.string ⟨#[]⟩)).set (b := gr) (fun _ => rfl) 2 (.int .i64 0)).set (b := gr) (fun _ => rfl) 3 (.int .i64 0)).set (b := gr) (fun _ => rfl) 4 (.int .i64 0)).set (b := gr) (fun _ => rfl) 5 (.slice none 0 0)).set (b := gr) (fun _ => rfl) 6 (.int .i64 0))
  have bF := (((((((BR2.out.set_ 0 (.int .i64 0)).set_ 1 (.string ⟨#[]⟩)).set_ 2 (.int .i64 0)).set_ 3 (.int .i64 0)).set_ 4 (.int .i64 0)).set_ 5 (.slice none 0 0)).set_ 6 (.int .i64 0))
  obtain ⟨wF, hwF⟩ : ∃ wF, (((((((w1.setCell ⟨gr, 0, none⟩ (.int .i64 0)).setCell ⟨gr, 1, none⟩ (.string ⟨#[]⟩)).setCell ⟨gr, 2, none⟩ (.int .i64 0)).setCell ⟨gr, 3, none⟩ (.int .i64 0)).setCell ⟨gr, 4, none⟩ (.int .i64 0)).setCell ⟨gr, 5, none⟩ (.slice none 0 0)).setCell ⟨gr, 6, none⟩ (.int .i64 0)) = wF := ⟨_, rfl⟩
  rw [hwF] at sF bF ⊢
  clear hwF rf rc0 rc1 rc2 rc3 rc4 rc5 rc6
  have f0 := bF.cell 0
  have f1 := bF.cell 1
  have f2 := bF.cell 2
  have f3 := bF.cell 3
  have f4 := bF.cell 4
  have f5 := bF.cell 5
  have f6 := bF.cell 6
  simp at f0 f1 f2 f3 f4 f5 f6
  refine bodyPost_ret (by simp [results, Try.results23, go_sem, f0, f1, f2, f3, f4, f5, f6]; rfl) rfl ?_
  have fin := get_fin HH.out hV HGR.out H2.out (Shy.of_ext X1.out) sF (.inl ⟨rfl, rfl⟩) (fun t ht => ht)
  exact ⟨none, 0, rfl, OwnG.nil _ _ _ _ _, fin.1, fin.2⟩
set_option maxHeartbeats 4000000 in
set_option maxRecDepth 100000 in
theorem rget_good (h : RefC w g most now A c T) {V : Nat → Prop} (hV : V g ∧ (0 < T.length → ∀ k, blk A = some k → V k) ∧ ∀ t ∈ T, 0 < (setOf t.e.x).data.length → ∀ k, blk t.A = some k → V k) {n : List UInt8} {kind rank at_ : Int} (hn : n.length ≤ 2000000) (hc : checkS n = 0) (hat : inTime at_) (hst : StOk most ⟨now, T.map (·.e)⟩) :
    Calls Try.prog 23 #[pt g, .string (str n), .int .i64 kind, .int .i64 rank, .int .i64 at_] w fun e w' => RgD V w w' g most (getS ⟨now, T.map (·.e)⟩ n kind rank at_).1 (getS ⟨now, T.map (·.e)⟩ n kind rank at_).2 e := by
  have htr := tmax_range hst.2.1 hat
  have hd := hst.2.2.2.2
  have HENT := hid (show ∀ t ∈ T, EntOk t.e from fun t ht => hst.2.2.2.1 t.e (List.mem_map.2 ⟨t, ht, rfl⟩))
  have hTl : T.length ≤ 4096 := by have h1 := hst.2.2.1; have h2 := hst.1; simp only [List.length_map] at h1; omega
  have HG1 := hid (show ∀ i, idxT T (lower n) kind = some i → takeR (T.getD i tr0) (tmax now at_) rank = true → getS ⟨now, T.map (·.e)⟩ n kind rank at_ = (⟨tmax now at_, (backT T i).map (·.e)⟩, foundT (T.getD i tr0).e kind (tmax now at_)) from fun i h1 h2 => getS_yes hd h1 h2)
  have HG2 := hid (show takeB T (lower n) kind (tmax now at_) rank = false → getS ⟨now, T.map (·.e)⟩ n kind rank at_ = get2S (T.map (·.e)) (tmax now at_) (lower n) from fun h2 => getS_no hd h2)
  have HG3 := hid (show ∀ i, idxT T (lower n) 0 = some i → tmax now at_ < (T.getD i tr0).e.x.till → get2S (T.map (·.e)) (tmax now at_) (lower n) = (⟨tmax now at_, (backT T i).map (·.e)⟩, ⟨3, zeroS, (T.getD i tr0).e.x.till - tmax now at_⟩) from fun i h1 h2 => get2_yes hd h1 h2)
  have HG4 := hid (show live2 T (lower n) (tmax now at_) = false → get2S (T.map (·.e)) (tmax now at_) (lower n) = (⟨tmax now at_, T.map (·.e)⟩, ⟨0, zeroS, 0⟩) from fun h2 => get2_no hd h2)
  obtain ⟨GS, hGS⟩ : ∃ GS, getS ⟨now, T.map (·.e)⟩ n kind rank at_ = GS := ⟨_, rfl⟩
  rw [hGS] at HG1 HG2 ⊢
  have HVV := hid hV
  have HNM := hid hn
  have CWI := fun W => rtime_in at_ W
  rw [decide_eq_true hat] at CWI
  have CWI := hid CWI
  obtain ⟨tm, htm⟩ : ∃ tm, (if now < at_ then at_ else now) = tm := ⟨_, rfl⟩
  have htm2 : tmax now at_ = tm := by unfold tmax; exact htm
  rw [htm2] at htr HG1 HG2 HG3 HG4
  obtain ⟨tk, htk⟩ : ∃ b, takeB T (lower n) kind tm rank = b := ⟨_, rfl⟩
  have HTK := hid htk
  have NUM := hid (show (0 ≤ tm ∧ tm ≤ 1099511627776) ∧ T.length ≤ 4096 from ⟨htr, hTl⟩)
  clear hst hd hV hGS htk htr hTl htm2
  have CCH := (fun W => ref_check n W hn)
  obtain ⟨q, hq⟩ : ∃ q, checkS n = q := ⟨_, rfl⟩
  rw [hq] at hc
  rw [show (∀ W, Calls Try.prog 48 #[.string (str n)] W fun e w' => e = .returned (.int .i64 (checkS n)) ∧ Ext W w') = (∀ W, Calls Try.prog 48 #[.string (str n)] W fun e w' => e = .returned (.int .i64 q) ∧ Ext W w') from by rw [hq]] at CCH
  have CCH := hid CCH
  have b1 : (q == 0) = true := by simp [hc]
  have b2 : (q != 0) = false := by simp [hc]
  clear hc hq
  have xa := ext_alloc w (.cells #[.int .i64 0, .string ⟨#[]⟩, .int .i64 0, .int .i64 0, .int .i64 0, .slice none 0 0, .int .i64 0] 37)
  have br := Blk.new w 37 #[.int .i64 0, .string ⟨#[]⟩, .int .i64 0, .int .i64 0, .int .i64 0, .slice none 0 0, .int .i64 0]
  obtain ⟨wa, hwa⟩ : ∃ wa, w.alloc (.cells #[.int .i64 0, .string ⟨#[]⟩, .int .i64 0, .int .i64 0, .int .i64 0, .slice none 0 0, .int .i64 0] 37) = wa := ⟨_, rfl⟩
  obtain ⟨gr, hgr⟩ : ∃ gr, w.heap.size = gr := ⟨_, rfl⟩
  rw [hwa] at xa br
  rw [hgr] at br
  have HH := hid h
  have H1 := hid (h.ext xa)
  have XA := hid xa
  have BR := hid br
  have HWA := hid hwa
  have HGR := hid hgr
  simp only [pt]
  clear h xa br hwa hgr hn
  go_enter Try.func23, Try.ntmps23
  go_upto_region 1 with (fail)
  rw [HWA.out, HGR.out]
  go_wp2_with fail
  refine (CCH.out _).mono ?_
  rintro e w1 ⟨rfl, x1⟩
  have H2 := hid (H1.out.ext x1)
  have BR2 := hid (BR.out.ext x1)
  have X1 := hid (ext_trans XA.out x1)
  clear x1 H1 BR
  go_wp2_with fail
  refine (CWI.out _).mono ?_
  rintro e _ ⟨rfl, rfl⟩
  have c2 : w1.cell? ⟨g, 2, none⟩ = some (.int .i64 now) := H2.out.b.cell 2
  have cf := H2.out.b.frozen
  have h3 := H2.out.time tm
  have s3 := set_shy g 2 (.int .i64 tm) w1
  have b3' := BR2.out.shy s3 (fun e => by have h1 := HH.out.b.lt; have h2 := HGR.out; omega)
  obtain ⟨w2, hw2⟩ : ∃ w2, w1.setCell ⟨g, 2, none⟩ (.int .i64 tm) = w2 := ⟨_, rfl⟩
  rw [hw2] at h3 s3 b3'
  have HW2 := hid hw2
  have H3 := hid h3
  have S3 : Hid (Shy (fun k => k = g) w w2) := hid ((Shy.of_ext X1.out).trans s3 (fun k _ e => e))
  have BR3 := hid b3'
  clear h3 s3 b3' hw2
  go_upto_region 4 with (fail)
  rw [HW2.out]
  clear c2 cf htm
  have AT := at_in H3.out (n := n) (kind := kind) HNM.out
  obtain ⟨o1, ho1⟩ : ∃ o1, idxT T (lower n) kind = o1 := ⟨_, rfl⟩
  rw [ho1] at AT
  obtain ⟨v1, hv1⟩ : ∃ v, idxV o1 = v := ⟨_, rfl⟩
  rw [hv1] at AT
  have HV1 := hid hv1
  have HO1 := hid ho1
  have IXC := hid (idxT_cases T (lower n) kind)
  clear ho1 hv1
  go_wp2_with fail
  refine AT.mono ?_
  rintro e w4 ⟨rfl, x4⟩
  have H4 := hid (H3.out.ext x4)
  have BR4 := hid (BR3.out.ext x4)
  have S4 := hid (S3.out.ext x4)
  clear x4 AT H3 BR3 S3 H2 BR2
  go_upto_region 5 with (fail)
  go_cut [78] (fun v wx => v = .bool tk ∧ Ext w4 wx)
  case first =>
    clear HG1 HG2 HG3 HG4 HENT HVV HNM HH HGR CCH CWI BR4 S4 HW2 XA X1 HWA
    rcases IXC.out with ⟨hn0, _⟩ | ⟨i, hi, hsi, _⟩
    · have ho : o1 = none := HO1.out.symm.trans hn0
      have hv : v1 = -1 := by rw [← HV1.out, ho]; rfl
      clear HV1 HO1
      subst ho hv
      have HSF : Hid (tk = false) := hid (by rw [← HTK.out]; unfold takeB; rw [hn0])
      have KEEP : Hid (∀ W, Ext w4 W → True) := hid (fun _ _ => trivial)
      refine wp_region_noPanic ?_
      refine region_E (S := fun W => True) 39 (by kernel_rfl) (by kernel_rfl) (by kernel_rfl) ?_
      refine EG_take 0 (v := ?v1) (by simp only [lga, lgb, lgc]; rfl) (by kernel_rfl) (by kernel_rfl) (by decide) (fun _ _ _ h => h) (Or.inl ⟨by rfl, ?hy1⟩) (KEEP.out _ (ext_drew _)) ?rest1
      case hy1 => intro W hSW; (try dsimp only at hSW); obtain _ := hSW; go_simp <;> with_reducible rfl
      try simp only [Act.put, lsa, lsb, lsc]
      refine EG_take 1 (v := ?v2) (by simp only [lga, lgb, lgc]; rfl) (by kernel_rfl) (by kernel_rfl) (by decide) (fun _ _ _ h => h) (Or.inl ⟨by rfl, ?hy2⟩) (KEEP.out _ (ext_drew _)) ?rest2
      case hy2 => intro W hSW; (try dsimp only at hSW); obtain _ := hSW; go_simp <;> with_reducible rfl
      try simp only [Act.put, lsa, lsb, lsc]
      refine EG_take 2 (v := ?v3) (by simp only [lga, lgb, lgc]; rfl) (by kernel_rfl) (by kernel_rfl) (by decide) (fun _ _ _ h => h) (Or.inl ⟨by rfl, ?hy3⟩) (KEEP.out _ (ext_drew _)) ?rest3
      case hy3 => intro W hSW; (try dsimp only at hSW); obtain _ := hSW; go_simp <;> with_reducible rfl
      try simp only [Act.put, lsa, lsb, lsc]
      refine EG_take 3 (v := undef) (by simp only [lga, lgb, lgc]; rfl) (by kernel_rfl) (by kernel_rfl) (by decide) (fun _ _ _ h => h) (Or.inr ⟨by rfl, rfl⟩) (KEEP.out _ (ext_drew _)) ?rest4
      try simp only [Act.put, lsa, lsb, lsc]
      refine EG_take 4 (v := undef) (by simp only [lga, lgb, lgc]; rfl) (by kernel_rfl) (by kernel_rfl) (by decide) (fun _ _ _ h => h) (Or.inr ⟨by rfl, rfl⟩) (KEEP.out _ (ext_drew _)) ?rest5
      try simp only [Act.put, lsa, lsb, lsc]
      refine EG_take 5 (v := undef) (by simp only [lga, lgb, lgc]; rfl) (by kernel_rfl) (by kernel_rfl) (by decide) (fun _ _ _ h => h) (Or.inr ⟨by rfl, rfl⟩) (KEEP.out _ (ext_drew _)) ?rest6
      try simp only [Act.put, lsa, lsb, lsc]
      refine EG_take 6 (v := undef) (by simp only [lga, lgb, lgc]; rfl) (by kernel_rfl) (by kernel_rfl) (by decide) (fun _ _ _ h => h) (Or.inr ⟨by rfl, rfl⟩) (KEEP.out _ (ext_drew _)) ?rest7
      try simp only [Act.put, lsa, lsb, lsc]
      refine EG_take 7 (v := undef) (by simp only [lga, lgb, lgc]; rfl) (by kernel_rfl) (by kernel_rfl) (by decide) (fun _ _ _ h => h) (Or.inr ⟨by rfl, rfl⟩) (KEEP.out _ (ext_drew _)) ?rest8
      try simp only [Act.put, lsa, lsb, lsc]
      refine EG_take 8 (v := undef) (by simp only [lga, lgb, lgc]; rfl) (by kernel_rfl) (by kernel_rfl) (by decide) (fun _ _ _ h => h) (Or.inr ⟨by rfl, rfl⟩) (KEEP.out _ (ext_drew _)) ?rest9
      try simp only [Act.put, lsa, lsb, lsc]
      refine EG_take 9 (v := undef) (by simp only [lga, lgb, lgc]; rfl) (by kernel_rfl) (by kernel_rfl) (by decide) (fun _ _ _ h => h) (Or.inr ⟨by rfl, rfl⟩) (KEEP.out _ (ext_drew _)) ?rest10
      try simp only [Act.put, lsa, lsb, lsc]
      refine EG_take 10 (v := undef) (by simp only [lga, lgb, lgc]; rfl) (by kernel_rfl) (by kernel_rfl) (by decide) (fun _ _ _ h => h) (Or.inr ⟨by rfl, rfl⟩) (KEEP.out _ (ext_drew _)) ?rest11
      try simp only [Act.put, lsa, lsb, lsc]
      refine EG_take 11 (v := undef) (by simp only [lga, lgb, lgc]; rfl) (by kernel_rfl) (by kernel_rfl) (by decide) (fun _ _ _ h => h) (Or.inr ⟨by rfl, rfl⟩) (KEEP.out _ (ext_drew _)) ?rest12
      try simp only [Act.put, lsa, lsb, lsc]
      refine EG_take 12 (v := undef) (by simp only [lga, lgb, lgc]; rfl) (by kernel_rfl) (by kernel_rfl) (by decide) (fun _ _ _ h => h) (Or.inr ⟨by rfl, rfl⟩) (KEEP.out _ (ext_drew _)) ?rest13
      try simp only [Act.put, lsa, lsb, lsc]
      refine EG_take 13 (v := undef) (by simp only [lga, lgb, lgc]; rfl) (by kernel_rfl) (by kernel_rfl) (by decide) (fun _ _ _ h => h) (Or.inr ⟨by rfl, rfl⟩) (KEEP.out _ (ext_drew _)) ?rest14
      try simp only [Act.put, lsa, lsb, lsc]
      refine EG_take 14 (v := undef) (by simp only [lga, lgb, lgc]; rfl) (by kernel_rfl) (by kernel_rfl) (by decide) (fun _ _ _ h => h) (Or.inr ⟨by rfl, rfl⟩) (KEEP.out _ (ext_drew _)) ?rest15
      try simp only [Act.put, lsa, lsb, lsc]
      refine EG_take 15 (v := undef) (by simp only [lga, lgb, lgc]; rfl) (by kernel_rfl) (by kernel_rfl) (by decide) (fun _ _ _ h => h) (Or.inr ⟨by rfl, rfl⟩) (KEEP.out _ (ext_drew _)) ?rest16
      try simp only [Act.put, lsa, lsb, lsc]
      refine EG_take 16 (v := ?v17) (by simp only [lga, lgb, lgc]; rfl) (by kernel_rfl) (by kernel_rfl) (by decide) (fun _ _ _ h => h) (Or.inl ⟨by rfl, ?hy17⟩) (KEEP.out _ (ext_drew _)) ?rest17
      case hy17 => intro W hSW; (try dsimp only at hSW); obtain _ := hSW; go_simp <;> with_reducible rfl
      try simp only [Act.put, lsa, lsb, lsc]
      refine EG_take 17 (v := ?v18) (by simp only [lga, lgb, lgc]; rfl) (by kernel_rfl) (by kernel_rfl) (by decide) (fun _ _ _ h => h) (Or.inl ⟨by rfl, ?hy18⟩) (KEEP.out _ (ext_drew _)) ?rest18
      case hy18 => intro W hSW; (try dsimp only at hSW); obtain _ := hSW; go_simp <;> with_reducible rfl
      try simp only [Act.put, lsa, lsb, lsc]
      refine EG_take 18 (v := undef) (by simp only [lga, lgb, lgc]; rfl) (by kernel_rfl) (by kernel_rfl) (by decide) (fun _ _ _ h => h) (Or.inr ⟨by rfl, rfl⟩) (KEEP.out _ (ext_drew _)) ?rest19
      try simp only [Act.put, lsa, lsb, lsc]
      refine EG_take 19 (v := undef) (by simp only [lga, lgb, lgc]; rfl) (by kernel_rfl) (by kernel_rfl) (by decide) (fun _ _ _ h => h) (Or.inr ⟨by rfl, rfl⟩) (KEEP.out _ (ext_drew _)) ?rest20
      try simp only [Act.put, lsa, lsb, lsc]
      refine EG_take 20 (v := undef) (by simp only [lga, lgb, lgc]; rfl) (by kernel_rfl) (by kernel_rfl) (by decide) (fun _ _ _ h => h) (Or.inr ⟨by rfl, rfl⟩) (KEEP.out _ (ext_drew _)) ?rest21
      try simp only [Act.put, lsa, lsb, lsc]
      refine EG_take 21 (v := undef) (by simp only [lga, lgb, lgc]; rfl) (by kernel_rfl) (by kernel_rfl) (by decide) (fun _ _ _ h => h) (Or.inr ⟨by rfl, rfl⟩) (KEEP.out _ (ext_drew _)) ?rest22
      try simp only [Act.put, lsa, lsb, lsc]
      refine EG_take 22 (v := undef) (by simp only [lga, lgb, lgc]; rfl) (by kernel_rfl) (by kernel_rfl) (by decide) (fun _ _ _ h => h) (Or.inr ⟨by rfl, rfl⟩) (KEEP.out _ (ext_drew _)) ?rest23
      try simp only [Act.put, lsa, lsb, lsc]
      refine EG_take 23 (v := undef) (by simp only [lga, lgb, lgc]; rfl) (by kernel_rfl) (by kernel_rfl) (by decide) (fun _ _ _ h => h) (Or.inr ⟨by rfl, rfl⟩) (KEEP.out _ (ext_drew _)) ?rest24
      try simp only [Act.put, lsa, lsb, lsc]
      refine EG_take 24 (v := undef) (by simp only [lga, lgb, lgc]; rfl) (by kernel_rfl) (by kernel_rfl) (by decide) (fun _ _ _ h => h) (Or.inr ⟨by rfl, rfl⟩) (KEEP.out _ (ext_drew _)) ?rest25
      try simp only [Act.put, lsa, lsb, lsc]
      refine EG_take 25 (v := undef) (by simp only [lga, lgb, lgc]; rfl) (by kernel_rfl) (by kernel_rfl) (by decide) (fun _ _ _ h => h) (Or.inr ⟨by rfl, rfl⟩) (KEEP.out _ (ext_drew _)) ?rest26
      try simp only [Act.put, lsa, lsb, lsc]
      refine EG_take 26 (v := undef) (by simp only [lga, lgb, lgc]; rfl) (by kernel_rfl) (by kernel_rfl) (by decide) (fun _ _ _ h => h) (Or.inr ⟨by rfl, rfl⟩) (KEEP.out _ (ext_drew _)) ?rest27
      try simp only [Act.put, lsa, lsb, lsc]
      refine EG_take 27 (v := undef) (by simp only [lga, lgb, lgc]; rfl) (by kernel_rfl) (by kernel_rfl) (by decide) (fun _ _ _ h => h) (Or.inr ⟨by rfl, rfl⟩) (KEEP.out _ (ext_drew _)) ?rest28
      try simp only [Act.put, lsa, lsb, lsc]
      refine EG_take 28 (v := undef) (by simp only [lga, lgb, lgc]; rfl) (by kernel_rfl) (by kernel_rfl) (by decide) (fun _ _ _ h => h) (Or.inr ⟨by rfl, rfl⟩) (KEEP.out _ (ext_drew _)) ?rest29
      try simp only [Act.put, lsa, lsb, lsc]
      refine EG_take 29 (v := undef) (by simp only [lga, lgb, lgc]; rfl) (by kernel_rfl) (by kernel_rfl) (by decide) (fun _ _ _ h => h) (Or.inr ⟨by rfl, rfl⟩) (KEEP.out _ (ext_drew _)) ?rest30
      try simp only [Act.put, lsa, lsb, lsc]
      refine EG_take 30 (v := undef) (by simp only [lga, lgb, lgc]; rfl) (by kernel_rfl) (by kernel_rfl) (by decide) (fun _ _ _ h => h) (Or.inr ⟨by rfl, rfl⟩) (KEEP.out _ (ext_drew _)) ?rest31
      try simp only [Act.put, lsa, lsb, lsc]
      refine EG_take 31 (v := undef) (by simp only [lga, lgb, lgc]; rfl) (by kernel_rfl) (by kernel_rfl) (by decide) (fun _ _ _ h => h) (Or.inr ⟨by rfl, rfl⟩) (KEEP.out _ (ext_drew _)) ?rest32
      try simp only [Act.put, lsa, lsb, lsc]
      refine EG_take 32 (v := undef) (by simp only [lga, lgb, lgc]; rfl) (by kernel_rfl) (by kernel_rfl) (by decide) (fun _ _ _ h => h) (Or.inr ⟨by rfl, rfl⟩) (KEEP.out _ (ext_drew _)) ?rest33
      try simp only [Act.put, lsa, lsb, lsc]
      refine EG_take 33 (v := undef) (by simp only [lga, lgb, lgc]; rfl) (by kernel_rfl) (by kernel_rfl) (by decide) (fun _ _ _ h => h) (Or.inr ⟨by rfl, rfl⟩) (KEEP.out _ (ext_drew _)) ?rest34
      try simp only [Act.put, lsa, lsb, lsc]
      refine EG_take 34 (v := undef) (by simp only [lga, lgb, lgc]; rfl) (by kernel_rfl) (by kernel_rfl) (by decide) (fun _ _ _ h => h) (Or.inr ⟨by rfl, rfl⟩) (KEEP.out _ (ext_drew _)) ?rest35
      try simp only [Act.put, lsa, lsb, lsc]
      refine EG_take 35 (v := undef) (by simp only [lga, lgb, lgc]; rfl) (by kernel_rfl) (by kernel_rfl) (by decide) (fun _ _ _ h => h) (Or.inr ⟨by rfl, rfl⟩) (KEEP.out _ (ext_drew _)) ?rest36
      try simp only [Act.put, lsa, lsb, lsc]
      refine EG_take 36 (v := undef) (by simp only [lga, lgb, lgc]; rfl) (by kernel_rfl) (by kernel_rfl) (by decide) (fun _ _ _ h => h) (Or.inr ⟨by rfl, rfl⟩) (KEEP.out _ (ext_drew _)) ?rest37
      try simp only [Act.put, lsa, lsb, lsc]
      refine EG_take 37 (v := undef) (by simp only [lga, lgb, lgc]; rfl) (by kernel_rfl) (by kernel_rfl) (by decide) (fun _ _ _ h => h) (Or.inr ⟨by rfl, rfl⟩) (KEEP.out _ (ext_drew _)) ?rest38
      try simp only [Act.put, lsa, lsb, lsc]
      refine EG_take 38 (v := undef) (by simp only [lga, lgb, lgc]; rfl) (by kernel_rfl) (by kernel_rfl) (by decide) (fun _ _ _ h => h) (Or.inr ⟨by rfl, rfl⟩) (KEEP.out _ (ext_drew _)) ?rest39
      try simp only [Act.put, lsa, lsb, lsc]
      refine EG_end (by kernel_rfl) (by simp only [lga, lgb, lgc]; rfl) ?_
      intro K hK0
      have hK := hid hK0
      clear hK0
      go_simp
      refine hK.out _ _ ?_
      clear hK K
      refine NoPanic.normal ?_
      go_wp2_with fail
      go_meet
      exact ⟨by rw [HSF.out], ext_drew _⟩
    · have ho : o1 = some i := HO1.out.symm.trans hsi
      have hv : v1 = (i : Int) := by rw [← HV1.out, ho]; rfl
      clear HV1 HO1
      subst ho hv
      obtain ⟨b, o, hA0, hb0, hc0⟩ := H4.out.at_ (by omega)
      obtain ⟨t, htm, htd, ha⟩ := hc0 i hi
      obtain ⟨tl, htl⟩ : ∃ tl, t.e.x.till = tl := ⟨_, rfl⟩
      obtain ⟨ib, hib⟩ : ∃ ib, isOf t.e.x = ib := ⟨_, rfl⟩
      obtain ⟨rk, hrk⟩ : ∃ rk, rankOf t.e.x = rk := ⟨_, rfl⟩
      obtain ⟨n0, hn0⟩ : ∃ n0, T.length = n0 := ⟨_, rfl⟩
      obtain ⟨c0, hc00⟩ : ∃ c0, c0 = c := ⟨_, rfl⟩
      have hcap := H4.out.r.cap
      have cg : w4.cell? ⟨g, 1, none⟩ = some (.slice A T.length c) := H4.out.b.cell 1
      rw [hA0, hn0, ← hc00] at cg
      rw [hn0] at hi hcap
      rw [← hc00] at hcap
      have HSV : Hid (tk = (decide (tm < tl) && (!ib || decide (rank ≤ rk)))) := hid (by rw [← HTK.out]; unfold takeB; rw [hsi]; simp only; rw [htd]; unfold takeR; rw [htl, hib, hrk])
      have a2 := ha 2 _ rfl
      have a3 := ha 3 _ rfl
      have a9 := ha 9 _ rfl
      rw [htl] at a2
      rw [hib] at a3
      rw [hrk] at a9
      have KEEP : Hid (∀ W, Ext w4 W → W.cell? ⟨g, 1, none⟩ = some (.slice (some ⟨b, o, none⟩) n0 c0) ∧ W.cell? ⟨g, 2, none⟩ = some (.int .i64 tm) ∧ W.cell? ⟨b, o + i * 10 + 2, none⟩ = some (.int .i64 tl) ∧ W.cell? ⟨b, o + i * 10 + 3, none⟩ = some (.bool ib) ∧ W.cell? ⟨b, o + i * 10 + 9, none⟩ = some (.int .i64 rk)) := hid (fun W y => ⟨(y.cell (p := ⟨g, 1, none⟩) H4.out.b.lt).trans cg, (H4.out.b.ext y).cell 2, (y.cell (p := ⟨b, _, none⟩) hb0).trans a2, (y.cell (p := ⟨b, _, none⟩) hb0).trans a3, (y.cell (p := ⟨b, _, none⟩) hb0).trans a9⟩)
      have i1 : (0 : Int) ≤ (i : Int) := by omega
      have hn9 : n0 ≤ 4096 := by have := NUM.out.2; omega
      clear cg a2 a3 a9 ha hc0 hb0 htl hib hrk hn0 htd htm hA0 hsi hc00
      by_cases q1 : tm < tl
      · have HQ1 := hid (show decide (tm < tl) = true from by simpa using q1)
        have q1 := HQ1.out
        cases ib
        · refine wp_region_noPanic ?_
          refine region_E (S := fun W => W.cell? ⟨g, 1, none⟩ = some (.slice (some ⟨b, o, none⟩) n0 c0) ∧ W.cell? ⟨g, 2, none⟩ = some (.int .i64 tm) ∧ W.cell? ⟨b, o + i * 10 + 2, none⟩ = some (.int .i64 tl) ∧ W.cell? ⟨b, o + i * 10 + 3, none⟩ = some (.bool false) ∧ W.cell? ⟨b, o + i * 10 + 9, none⟩ = some (.int .i64 rk)) 39 (by kernel_rfl) (by kernel_rfl) (by kernel_rfl) ?_
          refine EG_take 0 (v := ?v40) (by simp only [lga, lgb, lgc]; rfl) (by kernel_rfl) (by kernel_rfl) (by decide) (fun _ _ _ h => h) (Or.inl ⟨by rfl, ?hy40⟩) (KEEP.out _ (ext_drew _)) ?rest40
          case hy40 => intro W hSW; (try dsimp only at hSW); obtain ⟨e1, e2, e3, e4, e5⟩ := hSW; go_simp <;> with_reducible rfl
          try simp only [Act.put, lsa, lsb, lsc]
          refine EG_take 1 (v := ?v41) (by simp only [lga, lgb, lgc]; rfl) (by kernel_rfl) (by kernel_rfl) (by decide) (fun _ _ _ h => h) (Or.inl ⟨by rfl, ?hy41⟩) (KEEP.out _ (ext_drew _)) ?rest41
          case hy41 => intro W hSW; (try dsimp only at hSW); obtain ⟨e1, e2, e3, e4, e5⟩ := hSW; go_simp <;> with_reducible rfl
          try simp only [Act.put, lsa, lsb, lsc]
          refine EG_take 2 (v := ?v42) (by simp only [lga, lgb, lgc]; rfl) (by kernel_rfl) (by kernel_rfl) (by decide) (fun _ _ _ h => h) (Or.inl ⟨by rfl, ?hy42⟩) (KEEP.out _ (ext_drew _)) ?rest42
          case hy42 => intro W hSW; (try dsimp only at hSW); obtain ⟨e1, e2, e3, e4, e5⟩ := hSW; go_simp <;> with_reducible rfl
          try simp only [Act.put, lsa, lsb, lsc]
          refine EG_take 3 (v := ?v43) (by simp only [lga, lgb, lgc]; rfl) (by kernel_rfl) (by kernel_rfl) (by decide) (fun _ _ _ h => h) (Or.inl ⟨by rfl, ?hy43⟩) (KEEP.out _ (ext_drew _)) ?rest43
          case hy43 => intro W hSW; (try dsimp only at hSW); obtain ⟨e1, e2, e3, e4, e5⟩ := hSW; go_simp <;> with_reducible rfl
          try simp only [Act.put, lsa, lsb, lsc]
          refine EG_take 4 (v := ?v44) (by simp only [lga, lgb, lgc]; rfl) (by kernel_rfl) (by kernel_rfl) (by decide) (fun _ _ _ h => h) (Or.inl ⟨by rfl, ?hy44⟩) (KEEP.out _ (ext_drew _)) ?rest44
          case hy44 => intro W hSW; (try dsimp only at hSW); obtain ⟨e1, e2, e3, e4, e5⟩ := hSW; go_simp <;> with_reducible rfl
          try simp only [Act.put, lsa, lsb, lsc]
          refine EG_take 5 (v := ?v45) (by simp only [lga, lgb, lgc]; rfl) (by kernel_rfl) (by kernel_rfl) (by decide) (fun _ _ _ h => h) (Or.inl ⟨by rfl, ?hy45⟩) (KEEP.out _ (ext_drew _)) ?rest45
          case hy45 => intro W hSW; (try dsimp only at hSW); obtain ⟨e1, e2, e3, e4, e5⟩ := hSW; go_simp <;> with_reducible rfl
          try simp only [Act.put, lsa, lsb, lsc]
          refine EG_take 6 (v := ?v46) (by simp only [lga, lgb, lgc]; rfl) (by kernel_rfl) (by kernel_rfl) (by decide) (fun _ _ _ h => h) (Or.inl ⟨by rfl, ?hy46⟩) (KEEP.out _ (ext_drew _)) ?rest46
          case hy46 => intro W hSW; (try dsimp only at hSW); obtain ⟨e1, e2, e3, e4, e5⟩ := hSW; go_simp <;> with_reducible rfl
          try simp only [Act.put, lsa, lsb, lsc]
          refine EG_take 7 (v := ?v47) (by simp only [lga, lgb, lgc]; rfl) (by kernel_rfl) (by kernel_rfl) (by decide) (fun _ _ _ h => h) (Or.inl ⟨by rfl, ?hy47⟩) (KEEP.out _ (ext_drew _)) ?rest47
          case hy47 => intro W hSW; (try dsimp only at hSW); obtain ⟨e1, e2, e3, e4, e5⟩ := hSW; go_simp <;> with_reducible rfl
          try simp only [Act.put, lsa, lsb, lsc]
          refine EG_take 8 (v := ?v48) (by simp only [lga, lgb, lgc]; rfl) (by kernel_rfl) (by kernel_rfl) (by decide) (fun _ _ _ h => h) (Or.inl ⟨by rfl, ?hy48⟩) (KEEP.out _ (ext_drew _)) ?rest48
          case hy48 => intro W hSW; (try dsimp only at hSW); obtain ⟨e1, e2, e3, e4, e5⟩ := hSW; go_simp <;> with_reducible rfl
          try simp only [Act.put, lsa, lsb, lsc]
          refine EG_take 9 (v := ?v49) (by simp only [lga, lgb, lgc]; rfl) (by kernel_rfl) (by kernel_rfl) (by decide) (fun _ _ _ h => h) (Or.inl ⟨by rfl, ?hy49⟩) (KEEP.out _ (ext_drew _)) ?rest49
          case hy49 => intro W hSW; (try dsimp only at hSW); obtain ⟨e1, e2, e3, e4, e5⟩ := hSW; go_simp <;> with_reducible rfl
          try simp only [Act.put, lsa, lsb, lsc]
          refine EG_take 10 (v := ?v50) (by simp only [lga, lgb, lgc]; rfl) (by kernel_rfl) (by kernel_rfl) (by decide) (fun _ _ _ h => h) (Or.inl ⟨by rfl, ?hy50⟩) (KEEP.out _ (ext_drew _)) ?rest50
          case hy50 => intro W hSW; (try dsimp only at hSW); obtain ⟨e1, e2, e3, e4, e5⟩ := hSW; go_simp <;> with_reducible rfl
          try simp only [Act.put, lsa, lsb, lsc]
          refine EG_take 11 (v := ?v51) (by simp only [lga, lgb, lgc]; rfl) (by kernel_rfl) (by kernel_rfl) (by decide) (fun _ _ _ h => h) (Or.inl ⟨by rfl, ?hy51⟩) (KEEP.out _ (ext_drew _)) ?rest51
          case hy51 => intro W hSW; (try dsimp only at hSW); obtain ⟨e1, e2, e3, e4, e5⟩ := hSW; go_simp <;> with_reducible rfl
          try simp only [Act.put, lsa, lsb, lsc]
          refine EG_take 12 (v := ?v52) (by simp only [lga, lgb, lgc]; rfl) (by kernel_rfl) (by kernel_rfl) (by decide) (fun _ _ _ h => h) (Or.inl ⟨by rfl, ?hy52⟩) (KEEP.out _ (ext_drew _)) ?rest52
          case hy52 => intro W hSW; (try dsimp only at hSW); obtain ⟨e1, e2, e3, e4, e5⟩ := hSW; go_simp <;> with_reducible rfl
          try simp only [Act.put, lsa, lsb, lsc]
          refine EG_take 13 (v := ?v53) (by simp only [lga, lgb, lgc]; rfl) (by kernel_rfl) (by kernel_rfl) (by decide) (fun _ _ _ h => h) (Or.inl ⟨by rfl, ?hy53⟩) (KEEP.out _ (ext_drew _)) ?rest53
          case hy53 => intro W hSW; (try dsimp only at hSW); obtain ⟨e1, e2, e3, e4, e5⟩ := hSW; go_simp <;> with_reducible rfl
          try simp only [Act.put, lsa, lsb, lsc]
          refine EG_take 14 (v := ?v54) (by simp only [lga, lgb, lgc]; rfl) (by kernel_rfl) (by kernel_rfl) (by decide) (fun _ _ _ h => h) (Or.inl ⟨by rfl, ?hy54⟩) (KEEP.out _ (ext_drew _)) ?rest54
          case hy54 => intro W hSW; (try dsimp only at hSW); obtain ⟨e1, e2, e3, e4, e5⟩ := hSW; go_simp <;> with_reducible rfl
          try simp only [Act.put, lsa, lsb, lsc]
          refine EG_take 15 (v := ?v55) (by simp only [lga, lgb, lgc]; rfl) (by kernel_rfl) (by kernel_rfl) (by decide) (fun _ _ _ h => h) (Or.inl ⟨by rfl, ?hy55⟩) (KEEP.out _ (ext_drew _)) ?rest55
          case hy55 => intro W hSW; (try dsimp only at hSW); obtain ⟨e1, e2, e3, e4, e5⟩ := hSW; go_simp <;> with_reducible rfl
          try simp only [Act.put, lsa, lsb, lsc]
          refine EG_take 16 (v := ?v56) (by simp only [lga, lgb, lgc]; rfl) (by kernel_rfl) (by kernel_rfl) (by decide) (fun _ _ _ h => h) (Or.inl ⟨by rfl, ?hy56⟩) (KEEP.out _ (ext_drew _)) ?rest56
          case hy56 => intro W hSW; (try dsimp only at hSW); obtain ⟨e1, e2, e3, e4, e5⟩ := hSW; go_simp <;> with_reducible rfl
          try simp only [Act.put, lsa, lsb, lsc]
          refine EG_take 17 (v := ?v57) (by simp only [lga, lgb, lgc]; rfl) (by kernel_rfl) (by kernel_rfl) (by decide) (fun _ _ _ h => h) (Or.inl ⟨by rfl, ?hy57⟩) (KEEP.out _ (ext_drew _)) ?rest57
          case hy57 => intro W hSW; (try dsimp only at hSW); obtain ⟨e1, e2, e3, e4, e5⟩ := hSW; go_simp <;> with_reducible rfl
          try simp only [Act.put, lsa, lsb, lsc]
          refine EG_take 18 (v := ?v58) (by simp only [lga, lgb, lgc]; rfl) (by kernel_rfl) (by kernel_rfl) (by decide) (fun _ _ _ h => h) (Or.inl ⟨by rfl, ?hy58⟩) (KEEP.out _ (ext_drew _)) ?rest58
          case hy58 => intro W hSW; (try dsimp only at hSW); obtain ⟨e1, e2, e3, e4, e5⟩ := hSW; go_simp <;> with_reducible rfl
          try simp only [Act.put, lsa, lsb, lsc]
          refine EG_take 19 (v := ?v59) (by simp only [lga, lgb, lgc]; rfl) (by kernel_rfl) (by kernel_rfl) (by decide) (fun _ _ _ h => h) (Or.inl ⟨by rfl, ?hy59⟩) (KEEP.out _ (ext_drew _)) ?rest59
          case hy59 => intro W hSW; (try dsimp only at hSW); obtain ⟨e1, e2, e3, e4, e5⟩ := hSW; go_simp <;> with_reducible rfl
          try simp only [Act.put, lsa, lsb, lsc]
          refine EG_take 20 (v := ?v60) (by simp only [lga, lgb, lgc]; rfl) (by kernel_rfl) (by kernel_rfl) (by decide) (fun _ _ _ h => h) (Or.inl ⟨by rfl, ?hy60⟩) (KEEP.out _ (ext_drew _)) ?rest60
          case hy60 => intro W hSW; (try dsimp only at hSW); obtain ⟨e1, e2, e3, e4, e5⟩ := hSW; go_simp <;> with_reducible rfl
          try simp only [Act.put, lsa, lsb, lsc]
          refine EG_take 21 (v := ?v61) (by simp only [lga, lgb, lgc]; rfl) (by kernel_rfl) (by kernel_rfl) (by decide) (fun _ _ _ h => h) (Or.inl ⟨by rfl, ?hy61⟩) (KEEP.out _ (ext_drew _)) ?rest61
          case hy61 => intro W hSW; (try dsimp only at hSW); obtain ⟨e1, e2, e3, e4, e5⟩ := hSW; go_simp <;> with_reducible rfl
          try simp only [Act.put, lsa, lsb, lsc]
          refine EG_take 22 (v := ?v62) (by simp only [lga, lgb, lgc]; rfl) (by kernel_rfl) (by kernel_rfl) (by decide) (fun _ _ _ h => h) (Or.inl ⟨by rfl, ?hy62⟩) (KEEP.out _ (ext_drew _)) ?rest62
          case hy62 => intro W hSW; (try dsimp only at hSW); obtain ⟨e1, e2, e3, e4, e5⟩ := hSW; go_simp <;> with_reducible rfl
          try simp only [Act.put, lsa, lsb, lsc]
          refine EG_take 23 (v := ?v63) (by simp only [lga, lgb, lgc]; rfl) (by kernel_rfl) (by kernel_rfl) (by decide) (fun _ _ _ h => h) (Or.inl ⟨by rfl, ?hy63⟩) (KEEP.out _ (ext_drew _)) ?rest63
          case hy63 => intro W hSW; (try dsimp only at hSW); obtain ⟨e1, e2, e3, e4, e5⟩ := hSW; go_simp <;> with_reducible rfl
          try simp only [Act.put, lsa, lsb, lsc]
          refine EG_take 24 (v := ?v64) (by simp only [lga, lgb, lgc]; rfl) (by kernel_rfl) (by kernel_rfl) (by decide) (fun _ _ _ h => h) (Or.inl ⟨by rfl, ?hy64⟩) (KEEP.out _ (ext_drew _)) ?rest64
          case hy64 => intro W hSW; (try dsimp only at hSW); obtain ⟨e1, e2, e3, e4, e5⟩ := hSW; go_simp <;> with_reducible rfl
          try simp only [Act.put, lsa, lsb, lsc]
          refine EG_take 25 (v := ?v65) (by simp only [lga, lgb, lgc]; rfl) (by kernel_rfl) (by kernel_rfl) (by decide) (fun _ _ _ h => h) (Or.inl ⟨by rfl, ?hy65⟩) (KEEP.out _ (ext_drew _)) ?rest65
          case hy65 => intro W hSW; (try dsimp only at hSW); obtain ⟨e1, e2, e3, e4, e5⟩ := hSW; go_simp <;> with_reducible rfl
          try simp only [Act.put, lsa, lsb, lsc]
          refine EG_take 26 (v := ?v66) (by simp only [lga, lgb, lgc]; rfl) (by kernel_rfl) (by kernel_rfl) (by decide) (fun _ _ _ h => h) (Or.inl ⟨by rfl, ?hy66⟩) (KEEP.out _ (ext_drew _)) ?rest66
          case hy66 => intro W hSW; (try dsimp only at hSW); obtain ⟨e1, e2, e3, e4, e5⟩ := hSW; go_simp <;> with_reducible rfl
          try simp only [Act.put, lsa, lsb, lsc]
          refine EG_take 27 (v := ?v67) (by simp only [lga, lgb, lgc]; rfl) (by kernel_rfl) (by kernel_rfl) (by decide) (fun _ _ _ h => h) (Or.inl ⟨by rfl, ?hy67⟩) (KEEP.out _ (ext_drew _)) ?rest67
          case hy67 => intro W hSW; (try dsimp only at hSW); obtain ⟨e1, e2, e3, e4, e5⟩ := hSW; go_simp <;> with_reducible rfl
          try simp only [Act.put, lsa, lsb, lsc]
          refine EG_take 28 (v := undef) (by simp only [lga, lgb, lgc]; rfl) (by kernel_rfl) (by kernel_rfl) (by decide) (fun _ _ _ h => h) (Or.inr ⟨by rfl, rfl⟩) (KEEP.out _ (ext_drew _)) ?rest68
          try simp only [Act.put, lsa, lsb, lsc]
          refine EG_take 29 (v := undef) (by simp only [lga, lgb, lgc]; rfl) (by kernel_rfl) (by kernel_rfl) (by decide) (fun _ _ _ h => h) (Or.inr ⟨by rfl, rfl⟩) (KEEP.out _ (ext_drew _)) ?rest69
          try simp only [Act.put, lsa, lsb, lsc]
          refine EG_take 30 (v := undef) (by simp only [lga, lgb, lgc]; rfl) (by kernel_rfl) (by kernel_rfl) (by decide) (fun _ _ _ h => h) (Or.inr ⟨by rfl, rfl⟩) (KEEP.out _ (ext_drew _)) ?rest70
          try simp only [Act.put, lsa, lsb, lsc]
          refine EG_take 31 (v := undef) (by simp only [lga, lgb, lgc]; rfl) (by kernel_rfl) (by kernel_rfl) (by decide) (fun _ _ _ h => h) (Or.inr ⟨by rfl, rfl⟩) (KEEP.out _ (ext_drew _)) ?rest71
          try simp only [Act.put, lsa, lsb, lsc]
          refine EG_take 32 (v := undef) (by simp only [lga, lgb, lgc]; rfl) (by kernel_rfl) (by kernel_rfl) (by decide) (fun _ _ _ h => h) (Or.inr ⟨by rfl, rfl⟩) (KEEP.out _ (ext_drew _)) ?rest72
          try simp only [Act.put, lsa, lsb, lsc]
          refine EG_take 33 (v := undef) (by simp only [lga, lgb, lgc]; rfl) (by kernel_rfl) (by kernel_rfl) (by decide) (fun _ _ _ h => h) (Or.inr ⟨by rfl, rfl⟩) (KEEP.out _ (ext_drew _)) ?rest73
          try simp only [Act.put, lsa, lsb, lsc]
          refine EG_take 34 (v := undef) (by simp only [lga, lgb, lgc]; rfl) (by kernel_rfl) (by kernel_rfl) (by decide) (fun _ _ _ h => h) (Or.inr ⟨by rfl, rfl⟩) (KEEP.out _ (ext_drew _)) ?rest74
          try simp only [Act.put, lsa, lsb, lsc]
          refine EG_take 35 (v := undef) (by simp only [lga, lgb, lgc]; rfl) (by kernel_rfl) (by kernel_rfl) (by decide) (fun _ _ _ h => h) (Or.inr ⟨by rfl, rfl⟩) (KEEP.out _ (ext_drew _)) ?rest75
          try simp only [Act.put, lsa, lsb, lsc]
          refine EG_take 36 (v := undef) (by simp only [lga, lgb, lgc]; rfl) (by kernel_rfl) (by kernel_rfl) (by decide) (fun _ _ _ h => h) (Or.inr ⟨by rfl, rfl⟩) (KEEP.out _ (ext_drew _)) ?rest76
          try simp only [Act.put, lsa, lsb, lsc]
          refine EG_take 37 (v := undef) (by simp only [lga, lgb, lgc]; rfl) (by kernel_rfl) (by kernel_rfl) (by decide) (fun _ _ _ h => h) (Or.inr ⟨by rfl, rfl⟩) (KEEP.out _ (ext_drew _)) ?rest77
          try simp only [Act.put, lsa, lsb, lsc]
          refine EG_take 38 (v := ?v78) (by simp only [lga, lgb, lgc]; rfl) (by kernel_rfl) (by kernel_rfl) (by decide) (fun _ _ _ h => h) (Or.inl ⟨by rfl, ?hy78⟩) (KEEP.out _ (ext_drew _)) ?rest78
          case hy78 => intro W hSW; (try dsimp only at hSW); obtain ⟨e1, e2, e3, e4, e5⟩ := hSW; go_simp <;> with_reducible rfl
          try simp only [Act.put, lsa, lsb, lsc]
          refine EG_end (by kernel_rfl) (by simp only [lga, lgb, lgc]; rfl) ?_
          intro K hK0
          have hK := hid hK0
          clear hK0
          go_simp
          refine hK.out _ _ ?_
          clear hK K
          refine NoPanic.normal ?_
          go_wp2_with fail
          go_meet
          exact ⟨by rw [HSV.out, HQ1.out]; rfl, ext_drew _⟩
        · by_cases q3 : rank ≤ rk
          · have HQ3 := hid (show decide (rank ≤ rk) = true from by simpa using q3)
            have q3 := HQ3.out
            refine wp_region_noPanic ?_
            refine region_E (S := fun W => W.cell? ⟨g, 1, none⟩ = some (.slice (some ⟨b, o, none⟩) n0 c0) ∧ W.cell? ⟨g, 2, none⟩ = some (.int .i64 tm) ∧ W.cell? ⟨b, o + i * 10 + 2, none⟩ = some (.int .i64 tl) ∧ W.cell? ⟨b, o + i * 10 + 3, none⟩ = some (.bool true) ∧ W.cell? ⟨b, o + i * 10 + 9, none⟩ = some (.int .i64 rk)) 39 (by kernel_rfl) (by kernel_rfl) (by kernel_rfl) ?_
            refine EG_take 0 (v := ?v79) (by simp only [lga, lgb, lgc]; rfl) (by kernel_rfl) (by kernel_rfl) (by decide) (fun _ _ _ h => h) (Or.inl ⟨by rfl, ?hy79⟩) (KEEP.out _ (ext_drew _)) ?rest79
            case hy79 => intro W hSW; (try dsimp only at hSW); obtain ⟨e1, e2, e3, e4, e5⟩ := hSW; go_simp <;> with_reducible rfl
            try simp only [Act.put, lsa, lsb, lsc]
            refine EG_take 1 (v := ?v80) (by simp only [lga, lgb, lgc]; rfl) (by kernel_rfl) (by kernel_rfl) (by decide) (fun _ _ _ h => h) (Or.inl ⟨by rfl, ?hy80⟩) (KEEP.out _ (ext_drew _)) ?rest80
            case hy80 => intro W hSW; (try dsimp only at hSW); obtain ⟨e1, e2, e3, e4, e5⟩ := hSW; go_simp <;> with_reducible rfl
            try simp only [Act.put, lsa, lsb, lsc]
            refine EG_take 2 (v := ?v81) (by simp only [lga, lgb, lgc]; rfl) (by kernel_rfl) (by kernel_rfl) (by decide) (fun _ _ _ h => h) (Or.inl ⟨by rfl, ?hy81⟩) (KEEP.out _ (ext_drew _)) ?rest81
            case hy81 => intro W hSW; (try dsimp only at hSW); obtain ⟨e1, e2, e3, e4, e5⟩ := hSW; go_simp <;> with_reducible rfl
            try simp only [Act.put, lsa, lsb, lsc]
            refine EG_take 3 (v := ?v82) (by simp only [lga, lgb, lgc]; rfl) (by kernel_rfl) (by kernel_rfl) (by decide) (fun _ _ _ h => h) (Or.inl ⟨by rfl, ?hy82⟩) (KEEP.out _ (ext_drew _)) ?rest82
            case hy82 => intro W hSW; (try dsimp only at hSW); obtain ⟨e1, e2, e3, e4, e5⟩ := hSW; go_simp <;> with_reducible rfl
            try simp only [Act.put, lsa, lsb, lsc]
            refine EG_take 4 (v := ?v83) (by simp only [lga, lgb, lgc]; rfl) (by kernel_rfl) (by kernel_rfl) (by decide) (fun _ _ _ h => h) (Or.inl ⟨by rfl, ?hy83⟩) (KEEP.out _ (ext_drew _)) ?rest83
            case hy83 => intro W hSW; (try dsimp only at hSW); obtain ⟨e1, e2, e3, e4, e5⟩ := hSW; go_simp <;> with_reducible rfl
            try simp only [Act.put, lsa, lsb, lsc]
            refine EG_take 5 (v := ?v84) (by simp only [lga, lgb, lgc]; rfl) (by kernel_rfl) (by kernel_rfl) (by decide) (fun _ _ _ h => h) (Or.inl ⟨by rfl, ?hy84⟩) (KEEP.out _ (ext_drew _)) ?rest84
            case hy84 => intro W hSW; (try dsimp only at hSW); obtain ⟨e1, e2, e3, e4, e5⟩ := hSW; go_simp <;> with_reducible rfl
            try simp only [Act.put, lsa, lsb, lsc]
            refine EG_take 6 (v := ?v85) (by simp only [lga, lgb, lgc]; rfl) (by kernel_rfl) (by kernel_rfl) (by decide) (fun _ _ _ h => h) (Or.inl ⟨by rfl, ?hy85⟩) (KEEP.out _ (ext_drew _)) ?rest85
            case hy85 => intro W hSW; (try dsimp only at hSW); obtain ⟨e1, e2, e3, e4, e5⟩ := hSW; go_simp <;> with_reducible rfl
            try simp only [Act.put, lsa, lsb, lsc]
            refine EG_take 7 (v := ?v86) (by simp only [lga, lgb, lgc]; rfl) (by kernel_rfl) (by kernel_rfl) (by decide) (fun _ _ _ h => h) (Or.inl ⟨by rfl, ?hy86⟩) (KEEP.out _ (ext_drew _)) ?rest86
            case hy86 => intro W hSW; (try dsimp only at hSW); obtain ⟨e1, e2, e3, e4, e5⟩ := hSW; go_simp <;> with_reducible rfl
            try simp only [Act.put, lsa, lsb, lsc]
            refine EG_take 8 (v := ?v87) (by simp only [lga, lgb, lgc]; rfl) (by kernel_rfl) (by kernel_rfl) (by decide) (fun _ _ _ h => h) (Or.inl ⟨by rfl, ?hy87⟩) (KEEP.out _ (ext_drew _)) ?rest87
            case hy87 => intro W hSW; (try dsimp only at hSW); obtain ⟨e1, e2, e3, e4, e5⟩ := hSW; go_simp <;> with_reducible rfl
            try simp only [Act.put, lsa, lsb, lsc]
            refine EG_take 9 (v := ?v88) (by simp only [lga, lgb, lgc]; rfl) (by kernel_rfl) (by kernel_rfl) (by decide) (fun _ _ _ h => h) (Or.inl ⟨by rfl, ?hy88⟩) (KEEP.out _ (ext_drew _)) ?rest88
            case hy88 => intro W hSW; (try dsimp only at hSW); obtain ⟨e1, e2, e3, e4, e5⟩ := hSW; go_simp <;> with_reducible rfl
            try simp only [Act.put, lsa, lsb, lsc]
            refine EG_take 10 (v := ?v89) (by simp only [lga, lgb, lgc]; rfl) (by kernel_rfl) (by kernel_rfl) (by decide) (fun _ _ _ h => h) (Or.inl ⟨by rfl, ?hy89⟩) (KEEP.out _ (ext_drew _)) ?rest89
            case hy89 => intro W hSW; (try dsimp only at hSW); obtain ⟨e1, e2, e3, e4, e5⟩ := hSW; go_simp <;> with_reducible rfl
            try simp only [Act.put, lsa, lsb, lsc]
            refine EG_take 11 (v := ?v90) (by simp only [lga, lgb, lgc]; rfl) (by kernel_rfl) (by kernel_rfl) (by decide) (fun _ _ _ h => h) (Or.inl ⟨by rfl, ?hy90⟩) (KEEP.out _ (ext_drew _)) ?rest90
            case hy90 => intro W hSW; (try dsimp only at hSW); obtain ⟨e1, e2, e3, e4, e5⟩ := hSW; go_simp <;> with_reducible rfl
            try simp only [Act.put, lsa, lsb, lsc]
            refine EG_take 12 (v := ?v91) (by simp only [lga, lgb, lgc]; rfl) (by kernel_rfl) (by kernel_rfl) (by decide) (fun _ _ _ h => h) (Or.inl ⟨by rfl, ?hy91⟩) (KEEP.out _ (ext_drew _)) ?rest91
            case hy91 => intro W hSW; (try dsimp only at hSW); obtain ⟨e1, e2, e3, e4, e5⟩ := hSW; go_simp <;> with_reducible rfl
            try simp only [Act.put, lsa, lsb, lsc]
            refine EG_take 13 (v := ?v92) (by simp only [lga, lgb, lgc]; rfl) (by kernel_rfl) (by kernel_rfl) (by decide) (fun _ _ _ h => h) (Or.inl ⟨by rfl, ?hy92⟩) (KEEP.out _ (ext_drew _)) ?rest92
            case hy92 => intro W hSW; (try dsimp only at hSW); obtain ⟨e1, e2, e3, e4, e5⟩ := hSW; go_simp <;> with_reducible rfl
            try simp only [Act.put, lsa, lsb, lsc]
            refine EG_take 14 (v := ?v93) (by simp only [lga, lgb, lgc]; rfl) (by kernel_rfl) (by kernel_rfl) (by decide) (fun _ _ _ h => h) (Or.inl ⟨by rfl, ?hy93⟩) (KEEP.out _ (ext_drew _)) ?rest93
            case hy93 => intro W hSW; (try dsimp only at hSW); obtain ⟨e1, e2, e3, e4, e5⟩ := hSW; go_simp <;> with_reducible rfl
            try simp only [Act.put, lsa, lsb, lsc]
            refine EG_take 15 (v := ?v94) (by simp only [lga, lgb, lgc]; rfl) (by kernel_rfl) (by kernel_rfl) (by decide) (fun _ _ _ h => h) (Or.inl ⟨by rfl, ?hy94⟩) (KEEP.out _ (ext_drew _)) ?rest94
            case hy94 => intro W hSW; (try dsimp only at hSW); obtain ⟨e1, e2, e3, e4, e5⟩ := hSW; go_simp <;> with_reducible rfl
            try simp only [Act.put, lsa, lsb, lsc]
            refine EG_take 16 (v := ?v95) (by simp only [lga, lgb, lgc]; rfl) (by kernel_rfl) (by kernel_rfl) (by decide) (fun _ _ _ h => h) (Or.inl ⟨by rfl, ?hy95⟩) (KEEP.out _ (ext_drew _)) ?rest95
            case hy95 => intro W hSW; (try dsimp only at hSW); obtain ⟨e1, e2, e3, e4, e5⟩ := hSW; go_simp <;> with_reducible rfl
            try simp only [Act.put, lsa, lsb, lsc]
            refine EG_take 17 (v := ?v96) (by simp only [lga, lgb, lgc]; rfl) (by kernel_rfl) (by kernel_rfl) (by decide) (fun _ _ _ h => h) (Or.inl ⟨by rfl, ?hy96⟩) (KEEP.out _ (ext_drew _)) ?rest96
            case hy96 => intro W hSW; (try dsimp only at hSW); obtain ⟨e1, e2, e3, e4, e5⟩ := hSW; go_simp <;> with_reducible rfl
            try simp only [Act.put, lsa, lsb, lsc]
            refine EG_take 18 (v := ?v97) (by simp only [lga, lgb, lgc]; rfl) (by kernel_rfl) (by kernel_rfl) (by decide) (fun _ _ _ h => h) (Or.inl ⟨by rfl, ?hy97⟩) (KEEP.out _ (ext_drew _)) ?rest97
            case hy97 => intro W hSW; (try dsimp only at hSW); obtain ⟨e1, e2, e3, e4, e5⟩ := hSW; go_simp <;> with_reducible rfl
            try simp only [Act.put, lsa, lsb, lsc]
            refine EG_take 19 (v := ?v98) (by simp only [lga, lgb, lgc]; rfl) (by kernel_rfl) (by kernel_rfl) (by decide) (fun _ _ _ h => h) (Or.inl ⟨by rfl, ?hy98⟩) (KEEP.out _ (ext_drew _)) ?rest98
            case hy98 => intro W hSW; (try dsimp only at hSW); obtain ⟨e1, e2, e3, e4, e5⟩ := hSW; go_simp <;> with_reducible rfl
            try simp only [Act.put, lsa, lsb, lsc]
            refine EG_take 20 (v := ?v99) (by simp only [lga, lgb, lgc]; rfl) (by kernel_rfl) (by kernel_rfl) (by decide) (fun _ _ _ h => h) (Or.inl ⟨by rfl, ?hy99⟩) (KEEP.out _ (ext_drew _)) ?rest99
            case hy99 => intro W hSW; (try dsimp only at hSW); obtain ⟨e1, e2, e3, e4, e5⟩ := hSW; go_simp <;> with_reducible rfl
            try simp only [Act.put, lsa, lsb, lsc]
            refine EG_take 21 (v := ?v100) (by simp only [lga, lgb, lgc]; rfl) (by kernel_rfl) (by kernel_rfl) (by decide) (fun _ _ _ h => h) (Or.inl ⟨by rfl, ?hy100⟩) (KEEP.out _ (ext_drew _)) ?rest100
            case hy100 => intro W hSW; (try dsimp only at hSW); obtain ⟨e1, e2, e3, e4, e5⟩ := hSW; go_simp <;> with_reducible rfl
            try simp only [Act.put, lsa, lsb, lsc]
            refine EG_take 22 (v := ?v101) (by simp only [lga, lgb, lgc]; rfl) (by kernel_rfl) (by kernel_rfl) (by decide) (fun _ _ _ h => h) (Or.inl ⟨by rfl, ?hy101⟩) (KEEP.out _ (ext_drew _)) ?rest101
            case hy101 => intro W hSW; (try dsimp only at hSW); obtain ⟨e1, e2, e3, e4, e5⟩ := hSW; go_simp <;> with_reducible rfl
            try simp only [Act.put, lsa, lsb, lsc]
            refine EG_take 23 (v := ?v102) (by simp only [lga, lgb, lgc]; rfl) (by kernel_rfl) (by kernel_rfl) (by decide) (fun _ _ _ h => h) (Or.inl ⟨by rfl, ?hy102⟩) (KEEP.out _ (ext_drew _)) ?rest102
            case hy102 => intro W hSW; (try dsimp only at hSW); obtain ⟨e1, e2, e3, e4, e5⟩ := hSW; go_simp <;> with_reducible rfl
            try simp only [Act.put, lsa, lsb, lsc]
            refine EG_take 24 (v := ?v103) (by simp only [lga, lgb, lgc]; rfl) (by kernel_rfl) (by kernel_rfl) (by decide) (fun _ _ _ h => h) (Or.inl ⟨by rfl, ?hy103⟩) (KEEP.out _ (ext_drew _)) ?rest103
            case hy103 => intro W hSW; (try dsimp only at hSW); obtain ⟨e1, e2, e3, e4, e5⟩ := hSW; go_simp <;> with_reducible rfl
            try simp only [Act.put, lsa, lsb, lsc]
            refine EG_take 25 (v := ?v104) (by simp only [lga, lgb, lgc]; rfl) (by kernel_rfl) (by kernel_rfl) (by decide) (fun _ _ _ h => h) (Or.inl ⟨by rfl, ?hy104⟩) (KEEP.out _ (ext_drew _)) ?rest104
            case hy104 => intro W hSW; (try dsimp only at hSW); obtain ⟨e1, e2, e3, e4, e5⟩ := hSW; go_simp <;> with_reducible rfl
            try simp only [Act.put, lsa, lsb, lsc]
            refine EG_take 26 (v := ?v105) (by simp only [lga, lgb, lgc]; rfl) (by kernel_rfl) (by kernel_rfl) (by decide) (fun _ _ _ h => h) (Or.inl ⟨by rfl, ?hy105⟩) (KEEP.out _ (ext_drew _)) ?rest105
            case hy105 => intro W hSW; (try dsimp only at hSW); obtain ⟨e1, e2, e3, e4, e5⟩ := hSW; go_simp <;> with_reducible rfl
            try simp only [Act.put, lsa, lsb, lsc]
            refine EG_take 27 (v := ?v106) (by simp only [lga, lgb, lgc]; rfl) (by kernel_rfl) (by kernel_rfl) (by decide) (fun _ _ _ h => h) (Or.inl ⟨by rfl, ?hy106⟩) (KEEP.out _ (ext_drew _)) ?rest106
            case hy106 => intro W hSW; (try dsimp only at hSW); obtain ⟨e1, e2, e3, e4, e5⟩ := hSW; go_simp <;> with_reducible rfl
            try simp only [Act.put, lsa, lsb, lsc]
            refine EG_take 28 (v := ?v107) (by simp only [lga, lgb, lgc]; rfl) (by kernel_rfl) (by kernel_rfl) (by decide) (fun _ _ _ h => h) (Or.inl ⟨by rfl, ?hy107⟩) (KEEP.out _ (ext_drew _)) ?rest107
            case hy107 => intro W hSW; (try dsimp only at hSW); obtain ⟨e1, e2, e3, e4, e5⟩ := hSW; go_simp <;> with_reducible rfl
            try simp only [Act.put, lsa, lsb, lsc]
            refine EG_take 29 (v := ?v108) (by simp only [lga, lgb, lgc]; rfl) (by kernel_rfl) (by kernel_rfl) (by decide) (fun _ _ _ h => h) (Or.inl ⟨by rfl, ?hy108⟩) (KEEP.out _ (ext_drew _)) ?rest108
            case hy108 => intro W hSW; (try dsimp only at hSW); obtain ⟨e1, e2, e3, e4, e5⟩ := hSW; go_simp <;> with_reducible rfl
            try simp only [Act.put, lsa, lsb, lsc]
            refine EG_take 30 (v := ?v109) (by simp only [lga, lgb, lgc]; rfl) (by kernel_rfl) (by kernel_rfl) (by decide) (fun _ _ _ h => h) (Or.inl ⟨by rfl, ?hy109⟩) (KEEP.out _ (ext_drew _)) ?rest109
            case hy109 => intro W hSW; (try dsimp only at hSW); obtain ⟨e1, e2, e3, e4, e5⟩ := hSW; go_simp <;> with_reducible rfl
            try simp only [Act.put, lsa, lsb, lsc]
            refine EG_take 31 (v := ?v110) (by simp only [lga, lgb, lgc]; rfl) (by kernel_rfl) (by kernel_rfl) (by decide) (fun _ _ _ h => h) (Or.inl ⟨by rfl, ?hy110⟩) (KEEP.out _ (ext_drew _)) ?rest110
            case hy110 => intro W hSW; (try dsimp only at hSW); obtain ⟨e1, e2, e3, e4, e5⟩ := hSW; go_simp <;> with_reducible rfl
            try simp only [Act.put, lsa, lsb, lsc]
            refine EG_take 32 (v := ?v111) (by simp only [lga, lgb, lgc]; rfl) (by kernel_rfl) (by kernel_rfl) (by decide) (fun _ _ _ h => h) (Or.inl ⟨by rfl, ?hy111⟩) (KEEP.out _ (ext_drew _)) ?rest111
            case hy111 => intro W hSW; (try dsimp only at hSW); obtain ⟨e1, e2, e3, e4, e5⟩ := hSW; go_simp <;> with_reducible rfl
            try simp only [Act.put, lsa, lsb, lsc]
            refine EG_take 33 (v := ?v112) (by simp only [lga, lgb, lgc]; rfl) (by kernel_rfl) (by kernel_rfl) (by decide) (fun _ _ _ h => h) (Or.inl ⟨by rfl, ?hy112⟩) (KEEP.out _ (ext_drew _)) ?rest112
            case hy112 => intro W hSW; (try dsimp only at hSW); obtain ⟨e1, e2, e3, e4, e5⟩ := hSW; go_simp <;> with_reducible rfl
            try simp only [Act.put, lsa, lsb, lsc]
            refine EG_take 34 (v := ?v113) (by simp only [lga, lgb, lgc]; rfl) (by kernel_rfl) (by kernel_rfl) (by decide) (fun _ _ _ h => h) (Or.inl ⟨by rfl, ?hy113⟩) (KEEP.out _ (ext_drew _)) ?rest113
            case hy113 => intro W hSW; (try dsimp only at hSW); obtain ⟨e1, e2, e3, e4, e5⟩ := hSW; go_simp <;> with_reducible rfl
            try simp only [Act.put, lsa, lsb, lsc]
            refine EG_take 35 (v := ?v114) (by simp only [lga, lgb, lgc]; rfl) (by kernel_rfl) (by kernel_rfl) (by decide) (fun _ _ _ h => h) (Or.inl ⟨by rfl, ?hy114⟩) (KEEP.out _ (ext_drew _)) ?rest114
            case hy114 => intro W hSW; (try dsimp only at hSW); obtain ⟨e1, e2, e3, e4, e5⟩ := hSW; go_simp <;> with_reducible rfl
            try simp only [Act.put, lsa, lsb, lsc]
            refine EG_take 36 (v := ?v115) (by simp only [lga, lgb, lgc]; rfl) (by kernel_rfl) (by kernel_rfl) (by decide) (fun _ _ _ h => h) (Or.inl ⟨by rfl, ?hy115⟩) (KEEP.out _ (ext_drew _)) ?rest115
            case hy115 => intro W hSW; (try dsimp only at hSW); obtain ⟨e1, e2, e3, e4, e5⟩ := hSW; go_simp <;> with_reducible rfl
            try simp only [Act.put, lsa, lsb, lsc]
            refine EG_take 37 (v := ?v116) (by simp only [lga, lgb, lgc]; rfl) (by kernel_rfl) (by kernel_rfl) (by decide) (fun _ _ _ h => h) (Or.inl ⟨by rfl, ?hy116⟩) (KEEP.out _ (ext_drew _)) ?rest116
            case hy116 => intro W hSW; (try dsimp only at hSW); obtain ⟨e1, e2, e3, e4, e5⟩ := hSW; go_simp <;> with_reducible rfl
            try simp only [Act.put, lsa, lsb, lsc]
            refine EG_take 38 (v := ?v117) (by simp only [lga, lgb, lgc]; rfl) (by kernel_rfl) (by kernel_rfl) (by decide) (fun _ _ _ h => h) (Or.inl ⟨by rfl, ?hy117⟩) (KEEP.out _ (ext_drew _)) ?rest117
            case hy117 => intro W hSW; (try dsimp only at hSW); obtain ⟨e1, e2, e3, e4, e5⟩ := hSW; go_simp <;> with_reducible rfl
            try simp only [Act.put, lsa, lsb, lsc]
            refine EG_end (by kernel_rfl) (by simp only [lga, lgb, lgc]; rfl) ?_
            intro K hK0
            have hK := hid hK0
            clear hK0
            go_simp
            refine hK.out _ _ ?_
            clear hK K
            refine NoPanic.normal ?_
            go_wp2_with fail
            go_meet
            exact ⟨by rw [HSV.out, HQ1.out, HQ3.out]; rfl, ext_drew _⟩
          · have HQ3 := hid (show decide (rank ≤ rk) = false from by simpa using q3)
            have q3 := HQ3.out
            refine wp_region_noPanic ?_
            refine region_E (S := fun W => W.cell? ⟨g, 1, none⟩ = some (.slice (some ⟨b, o, none⟩) n0 c0) ∧ W.cell? ⟨g, 2, none⟩ = some (.int .i64 tm) ∧ W.cell? ⟨b, o + i * 10 + 2, none⟩ = some (.int .i64 tl) ∧ W.cell? ⟨b, o + i * 10 + 3, none⟩ = some (.bool true) ∧ W.cell? ⟨b, o + i * 10 + 9, none⟩ = some (.int .i64 rk)) 39 (by kernel_rfl) (by kernel_rfl) (by kernel_rfl) ?_
            refine EG_take 0 (v := ?v118) (by simp only [lga, lgb, lgc]; rfl) (by kernel_rfl) (by kernel_rfl) (by decide) (fun _ _ _ h => h) (Or.inl ⟨by rfl, ?hy118⟩) (KEEP.out _ (ext_drew _)) ?rest118
            case hy118 => intro W hSW; (try dsimp only at hSW); obtain ⟨e1, e2, e3, e4, e5⟩ := hSW; go_simp <;> with_reducible rfl
            try simp only [Act.put, lsa, lsb, lsc]
            refine EG_take 1 (v := ?v119) (by simp only [lga, lgb, lgc]; rfl) (by kernel_rfl) (by kernel_rfl) (by decide) (fun _ _ _ h => h) (Or.inl ⟨by rfl, ?hy119⟩) (KEEP.out _ (ext_drew _)) ?rest119
            case hy119 => intro W hSW; (try dsimp only at hSW); obtain ⟨e1, e2, e3, e4, e5⟩ := hSW; go_simp <;> with_reducible rfl
            try simp only [Act.put, lsa, lsb, lsc]
            refine EG_take 2 (v := ?v120) (by simp only [lga, lgb, lgc]; rfl) (by kernel_rfl) (by kernel_rfl) (by decide) (fun _ _ _ h => h) (Or.inl ⟨by rfl, ?hy120⟩) (KEEP.out _ (ext_drew _)) ?rest120
            case hy120 => intro W hSW; (try dsimp only at hSW); obtain ⟨e1, e2, e3, e4, e5⟩ := hSW; go_simp <;> with_reducible rfl
            try simp only [Act.put, lsa, lsb, lsc]
            refine EG_take 3 (v := ?v121) (by simp only [lga, lgb, lgc]; rfl) (by kernel_rfl) (by kernel_rfl) (by decide) (fun _ _ _ h => h) (Or.inl ⟨by rfl, ?hy121⟩) (KEEP.out _ (ext_drew _)) ?rest121
            case hy121 => intro W hSW; (try dsimp only at hSW); obtain ⟨e1, e2, e3, e4, e5⟩ := hSW; go_simp <;> with_reducible rfl
            try simp only [Act.put, lsa, lsb, lsc]
            refine EG_take 4 (v := ?v122) (by simp only [lga, lgb, lgc]; rfl) (by kernel_rfl) (by kernel_rfl) (by decide) (fun _ _ _ h => h) (Or.inl ⟨by rfl, ?hy122⟩) (KEEP.out _ (ext_drew _)) ?rest122
            case hy122 => intro W hSW; (try dsimp only at hSW); obtain ⟨e1, e2, e3, e4, e5⟩ := hSW; go_simp <;> with_reducible rfl
            try simp only [Act.put, lsa, lsb, lsc]
            refine EG_take 5 (v := ?v123) (by simp only [lga, lgb, lgc]; rfl) (by kernel_rfl) (by kernel_rfl) (by decide) (fun _ _ _ h => h) (Or.inl ⟨by rfl, ?hy123⟩) (KEEP.out _ (ext_drew _)) ?rest123
            case hy123 => intro W hSW; (try dsimp only at hSW); obtain ⟨e1, e2, e3, e4, e5⟩ := hSW; go_simp <;> with_reducible rfl
            try simp only [Act.put, lsa, lsb, lsc]
            refine EG_take 6 (v := ?v124) (by simp only [lga, lgb, lgc]; rfl) (by kernel_rfl) (by kernel_rfl) (by decide) (fun _ _ _ h => h) (Or.inl ⟨by rfl, ?hy124⟩) (KEEP.out _ (ext_drew _)) ?rest124
            case hy124 => intro W hSW; (try dsimp only at hSW); obtain ⟨e1, e2, e3, e4, e5⟩ := hSW; go_simp <;> with_reducible rfl
            try simp only [Act.put, lsa, lsb, lsc]
            refine EG_take 7 (v := ?v125) (by simp only [lga, lgb, lgc]; rfl) (by kernel_rfl) (by kernel_rfl) (by decide) (fun _ _ _ h => h) (Or.inl ⟨by rfl, ?hy125⟩) (KEEP.out _ (ext_drew _)) ?rest125
            case hy125 => intro W hSW; (try dsimp only at hSW); obtain ⟨e1, e2, e3, e4, e5⟩ := hSW; go_simp <;> with_reducible rfl
            try simp only [Act.put, lsa, lsb, lsc]
            refine EG_take 8 (v := ?v126) (by simp only [lga, lgb, lgc]; rfl) (by kernel_rfl) (by kernel_rfl) (by decide) (fun _ _ _ h => h) (Or.inl ⟨by rfl, ?hy126⟩) (KEEP.out _ (ext_drew _)) ?rest126
            case hy126 => intro W hSW; (try dsimp only at hSW); obtain ⟨e1, e2, e3, e4, e5⟩ := hSW; go_simp <;> with_reducible rfl
            try simp only [Act.put, lsa, lsb, lsc]
            refine EG_take 9 (v := ?v127) (by simp only [lga, lgb, lgc]; rfl) (by kernel_rfl) (by kernel_rfl) (by decide) (fun _ _ _ h => h) (Or.inl ⟨by rfl, ?hy127⟩) (KEEP.out _ (ext_drew _)) ?rest127
            case hy127 => intro W hSW; (try dsimp only at hSW); obtain ⟨e1, e2, e3, e4, e5⟩ := hSW; go_simp <;> with_reducible rfl
            try simp only [Act.put, lsa, lsb, lsc]
            refine EG_take 10 (v := ?v128) (by simp only [lga, lgb, lgc]; rfl) (by kernel_rfl) (by kernel_rfl) (by decide) (fun _ _ _ h => h) (Or.inl ⟨by rfl, ?hy128⟩) (KEEP.out _ (ext_drew _)) ?rest128
            case hy128 => intro W hSW; (try dsimp only at hSW); obtain ⟨e1, e2, e3, e4, e5⟩ := hSW; go_simp <;> with_reducible rfl
            try simp only [Act.put, lsa, lsb, lsc]
            refine EG_take 11 (v := ?v129) (by simp only [lga, lgb, lgc]; rfl) (by kernel_rfl) (by kernel_rfl) (by decide) (fun _ _ _ h => h) (Or.inl ⟨by rfl, ?hy129⟩) (KEEP.out _ (ext_drew _)) ?rest129
            case hy129 => intro W hSW; (try dsimp only at hSW); obtain ⟨e1, e2, e3, e4, e5⟩ := hSW; go_simp <;> with_reducible rfl
            try simp only [Act.put, lsa, lsb, lsc]
            refine EG_take 12 (v := ?v130) (by simp only [lga, lgb, lgc]; rfl) (by kernel_rfl) (by kernel_rfl) (by decide) (fun _ _ _ h => h) (Or.inl ⟨by rfl, ?hy130⟩) (KEEP.out _ (ext_drew _)) ?rest130
            case hy130 => intro W hSW; (try dsimp only at hSW); obtain ⟨e1, e2, e3, e4, e5⟩ := hSW; go_simp <;> with_reducible rfl
            try simp only [Act.put, lsa, lsb, lsc]
            refine EG_take 13 (v := ?v131) (by simp only [lga, lgb, lgc]; rfl) (by kernel_rfl) (by kernel_rfl) (by decide) (fun _ _ _ h => h) (Or.inl ⟨by rfl, ?hy131⟩) (KEEP.out _ (ext_drew _)) ?rest131
            case hy131 => intro W hSW; (try dsimp only at hSW); obtain ⟨e1, e2, e3, e4, e5⟩ := hSW; go_simp <;> with_reducible rfl
            try simp only [Act.put, lsa, lsb, lsc]
            refine EG_take 14 (v := ?v132) (by simp only [lga, lgb, lgc]; rfl) (by kernel_rfl) (by kernel_rfl) (by decide) (fun _ _ _ h => h) (Or.inl ⟨by rfl, ?hy132⟩) (KEEP.out _ (ext_drew _)) ?rest132
            case hy132 => intro W hSW; (try dsimp only at hSW); obtain ⟨e1, e2, e3, e4, e5⟩ := hSW; go_simp <;> with_reducible rfl
            try simp only [Act.put, lsa, lsb, lsc]
            refine EG_take 15 (v := ?v133) (by simp only [lga, lgb, lgc]; rfl) (by kernel_rfl) (by kernel_rfl) (by decide) (fun _ _ _ h => h) (Or.inl ⟨by rfl, ?hy133⟩) (KEEP.out _ (ext_drew _)) ?rest133
            case hy133 => intro W hSW; (try dsimp only at hSW); obtain ⟨e1, e2, e3, e4, e5⟩ := hSW; go_simp <;> with_reducible rfl
            try simp only [Act.put, lsa, lsb, lsc]
            refine EG_take 16 (v := ?v134) (by simp only [lga, lgb, lgc]; rfl) (by kernel_rfl) (by kernel_rfl) (by decide) (fun _ _ _ h => h) (Or.inl ⟨by rfl, ?hy134⟩) (KEEP.out _ (ext_drew _)) ?rest134
            case hy134 => intro W hSW; (try dsimp only at hSW); obtain ⟨e1, e2, e3, e4, e5⟩ := hSW; go_simp <;> with_reducible rfl
            try simp only [Act.put, lsa, lsb, lsc]
            refine EG_take 17 (v := ?v135) (by simp only [lga, lgb, lgc]; rfl) (by kernel_rfl) (by kernel_rfl) (by decide) (fun _ _ _ h => h) (Or.inl ⟨by rfl, ?hy135⟩) (KEEP.out _ (ext_drew _)) ?rest135
            case hy135 => intro W hSW; (try dsimp only at hSW); obtain ⟨e1, e2, e3, e4, e5⟩ := hSW; go_simp <;> with_reducible rfl
            try simp only [Act.put, lsa, lsb, lsc]
            refine EG_take 18 (v := ?v136) (by simp only [lga, lgb, lgc]; rfl) (by kernel_rfl) (by kernel_rfl) (by decide) (fun _ _ _ h => h) (Or.inl ⟨by rfl, ?hy136⟩) (KEEP.out _ (ext_drew _)) ?rest136
            case hy136 => intro W hSW; (try dsimp only at hSW); obtain ⟨e1, e2, e3, e4, e5⟩ := hSW; go_simp <;> with_reducible rfl
            try simp only [Act.put, lsa, lsb, lsc]
            refine EG_take 19 (v := ?v137) (by simp only [lga, lgb, lgc]; rfl) (by kernel_rfl) (by kernel_rfl) (by decide) (fun _ _ _ h => h) (Or.inl ⟨by rfl, ?hy137⟩) (KEEP.out _ (ext_drew _)) ?rest137
            case hy137 => intro W hSW; (try dsimp only at hSW); obtain ⟨e1, e2, e3, e4, e5⟩ := hSW; go_simp <;> with_reducible rfl
            try simp only [Act.put, lsa, lsb, lsc]
            refine EG_take 20 (v := ?v138) (by simp only [lga, lgb, lgc]; rfl) (by kernel_rfl) (by kernel_rfl) (by decide) (fun _ _ _ h => h) (Or.inl ⟨by rfl, ?hy138⟩) (KEEP.out _ (ext_drew _)) ?rest138
            case hy138 => intro W hSW; (try dsimp only at hSW); obtain ⟨e1, e2, e3, e4, e5⟩ := hSW; go_simp <;> with_reducible rfl
            try simp only [Act.put, lsa, lsb, lsc]
            refine EG_take 21 (v := ?v139) (by simp only [lga, lgb, lgc]; rfl) (by kernel_rfl) (by kernel_rfl) (by decide) (fun _ _ _ h => h) (Or.inl ⟨by rfl, ?hy139⟩) (KEEP.out _ (ext_drew _)) ?rest139
            case hy139 => intro W hSW; (try dsimp only at hSW); obtain ⟨e1, e2, e3, e4, e5⟩ := hSW; go_simp <;> with_reducible rfl
            try simp only [Act.put, lsa, lsb, lsc]
            refine EG_take 22 (v := ?v140) (by simp only [lga, lgb, lgc]; rfl) (by kernel_rfl) (by kernel_rfl) (by decide) (fun _ _ _ h => h) (Or.inl ⟨by rfl, ?hy140⟩) (KEEP.out _ (ext_drew _)) ?rest140
            case hy140 => intro W hSW; (try dsimp only at hSW); obtain ⟨e1, e2, e3, e4, e5⟩ := hSW; go_simp <;> with_reducible rfl
            try simp only [Act.put, lsa, lsb, lsc]
            refine EG_take 23 (v := ?v141) (by simp only [lga, lgb, lgc]; rfl) (by kernel_rfl) (by kernel_rfl) (by decide) (fun _ _ _ h => h) (Or.inl ⟨by rfl, ?hy141⟩) (KEEP.out _ (ext_drew _)) ?rest141
            case hy141 => intro W hSW; (try dsimp only at hSW); obtain ⟨e1, e2, e3, e4, e5⟩ := hSW; go_simp <;> with_reducible rfl
            try simp only [Act.put, lsa, lsb, lsc]
            refine EG_take 24 (v := ?v142) (by simp only [lga, lgb, lgc]; rfl) (by kernel_rfl) (by kernel_rfl) (by decide) (fun _ _ _ h => h) (Or.inl ⟨by rfl, ?hy142⟩) (KEEP.out _ (ext_drew _)) ?rest142
            case hy142 => intro W hSW; (try dsimp only at hSW); obtain ⟨e1, e2, e3, e4, e5⟩ := hSW; go_simp <;> with_reducible rfl
            try simp only [Act.put, lsa, lsb, lsc]
            refine EG_take 25 (v := ?v143) (by simp only [lga, lgb, lgc]; rfl) (by kernel_rfl) (by kernel_rfl) (by decide) (fun _ _ _ h => h) (Or.inl ⟨by rfl, ?hy143⟩) (KEEP.out _ (ext_drew _)) ?rest143
            case hy143 => intro W hSW; (try dsimp only at hSW); obtain ⟨e1, e2, e3, e4, e5⟩ := hSW; go_simp <;> with_reducible rfl
            try simp only [Act.put, lsa, lsb, lsc]
            refine EG_take 26 (v := ?v144) (by simp only [lga, lgb, lgc]; rfl) (by kernel_rfl) (by kernel_rfl) (by decide) (fun _ _ _ h => h) (Or.inl ⟨by rfl, ?hy144⟩) (KEEP.out _ (ext_drew _)) ?rest144
            case hy144 => intro W hSW; (try dsimp only at hSW); obtain ⟨e1, e2, e3, e4, e5⟩ := hSW; go_simp <;> with_reducible rfl
            try simp only [Act.put, lsa, lsb, lsc]
            refine EG_take 27 (v := ?v145) (by simp only [lga, lgb, lgc]; rfl) (by kernel_rfl) (by kernel_rfl) (by decide) (fun _ _ _ h => h) (Or.inl ⟨by rfl, ?hy145⟩) (KEEP.out _ (ext_drew _)) ?rest145
            case hy145 => intro W hSW; (try dsimp only at hSW); obtain ⟨e1, e2, e3, e4, e5⟩ := hSW; go_simp <;> with_reducible rfl
            try simp only [Act.put, lsa, lsb, lsc]
            refine EG_take 28 (v := ?v146) (by simp only [lga, lgb, lgc]; rfl) (by kernel_rfl) (by kernel_rfl) (by decide) (fun _ _ _ h => h) (Or.inl ⟨by rfl, ?hy146⟩) (KEEP.out _ (ext_drew _)) ?rest146
            case hy146 => intro W hSW; (try dsimp only at hSW); obtain ⟨e1, e2, e3, e4, e5⟩ := hSW; go_simp <;> with_reducible rfl
            try simp only [Act.put, lsa, lsb, lsc]
            refine EG_take 29 (v := ?v147) (by simp only [lga, lgb, lgc]; rfl) (by kernel_rfl) (by kernel_rfl) (by decide) (fun _ _ _ h => h) (Or.inl ⟨by rfl, ?hy147⟩) (KEEP.out _ (ext_drew _)) ?rest147
            case hy147 => intro W hSW; (try dsimp only at hSW); obtain ⟨e1, e2, e3, e4, e5⟩ := hSW; go_simp <;> with_reducible rfl
            try simp only [Act.put, lsa, lsb, lsc]
            refine EG_take 30 (v := ?v148) (by simp only [lga, lgb, lgc]; rfl) (by kernel_rfl) (by kernel_rfl) (by decide) (fun _ _ _ h => h) (Or.inl ⟨by rfl, ?hy148⟩) (KEEP.out _ (ext_drew _)) ?rest148
            case hy148 => intro W hSW; (try dsimp only at hSW); obtain ⟨e1, e2, e3, e4, e5⟩ := hSW; go_simp <;> with_reducible rfl
            try simp only [Act.put, lsa, lsb, lsc]
            refine EG_take 31 (v := ?v149) (by simp only [lga, lgb, lgc]; rfl) (by kernel_rfl) (by kernel_rfl) (by decide) (fun _ _ _ h => h) (Or.inl ⟨by rfl, ?hy149⟩) (KEEP.out _ (ext_drew _)) ?rest149
            case hy149 => intro W hSW; (try dsimp only at hSW); obtain ⟨e1, e2, e3, e4, e5⟩ := hSW; go_simp <;> with_reducible rfl
            try simp only [Act.put, lsa, lsb, lsc]
            refine EG_take 32 (v := ?v150) (by simp only [lga, lgb, lgc]; rfl) (by kernel_rfl) (by kernel_rfl) (by decide) (fun _ _ _ h => h) (Or.inl ⟨by rfl, ?hy150⟩) (KEEP.out _ (ext_drew _)) ?rest150
            case hy150 => intro W hSW; (try dsimp only at hSW); obtain ⟨e1, e2, e3, e4, e5⟩ := hSW; go_simp <;> with_reducible rfl
            try simp only [Act.put, lsa, lsb, lsc]
            refine EG_take 33 (v := ?v151) (by simp only [lga, lgb, lgc]; rfl) (by kernel_rfl) (by kernel_rfl) (by decide) (fun _ _ _ h => h) (Or.inl ⟨by rfl, ?hy151⟩) (KEEP.out _ (ext_drew _)) ?rest151
            case hy151 => intro W hSW; (try dsimp only at hSW); obtain ⟨e1, e2, e3, e4, e5⟩ := hSW; go_simp <;> with_reducible rfl
            try simp only [Act.put, lsa, lsb, lsc]
            refine EG_take 34 (v := ?v152) (by simp only [lga, lgb, lgc]; rfl) (by kernel_rfl) (by kernel_rfl) (by decide) (fun _ _ _ h => h) (Or.inl ⟨by rfl, ?hy152⟩) (KEEP.out _ (ext_drew _)) ?rest152
            case hy152 => intro W hSW; (try dsimp only at hSW); obtain ⟨e1, e2, e3, e4, e5⟩ := hSW; go_simp <;> with_reducible rfl
            try simp only [Act.put, lsa, lsb, lsc]
            refine EG_take 35 (v := ?v153) (by simp only [lga, lgb, lgc]; rfl) (by kernel_rfl) (by kernel_rfl) (by decide) (fun _ _ _ h => h) (Or.inl ⟨by rfl, ?hy153⟩) (KEEP.out _ (ext_drew _)) ?rest153
            case hy153 => intro W hSW; (try dsimp only at hSW); obtain ⟨e1, e2, e3, e4, e5⟩ := hSW; go_simp <;> with_reducible rfl
            try simp only [Act.put, lsa, lsb, lsc]
            refine EG_take 36 (v := ?v154) (by simp only [lga, lgb, lgc]; rfl) (by kernel_rfl) (by kernel_rfl) (by decide) (fun _ _ _ h => h) (Or.inl ⟨by rfl, ?hy154⟩) (KEEP.out _ (ext_drew _)) ?rest154
            case hy154 => intro W hSW; (try dsimp only at hSW); obtain ⟨e1, e2, e3, e4, e5⟩ := hSW; go_simp <;> with_reducible rfl
            try simp only [Act.put, lsa, lsb, lsc]
            refine EG_take 37 (v := ?v155) (by simp only [lga, lgb, lgc]; rfl) (by kernel_rfl) (by kernel_rfl) (by decide) (fun _ _ _ h => h) (Or.inl ⟨by rfl, ?hy155⟩) (KEEP.out _ (ext_drew _)) ?rest155
            case hy155 => intro W hSW; (try dsimp only at hSW); obtain ⟨e1, e2, e3, e4, e5⟩ := hSW; go_simp <;> with_reducible rfl
            try simp only [Act.put, lsa, lsb, lsc]
            refine EG_take 38 (v := ?v156) (by simp only [lga, lgb, lgc]; rfl) (by kernel_rfl) (by kernel_rfl) (by decide) (fun _ _ _ h => h) (Or.inl ⟨by rfl, ?hy156⟩) (KEEP.out _ (ext_drew _)) ?rest156
            case hy156 => intro W hSW; (try dsimp only at hSW); obtain ⟨e1, e2, e3, e4, e5⟩ := hSW; go_simp <;> with_reducible rfl
            try simp only [Act.put, lsa, lsb, lsc]
            refine EG_end (by kernel_rfl) (by simp only [lga, lgb, lgc]; rfl) ?_
            intro K hK0
            have hK := hid hK0
            clear hK0
            go_simp
            refine hK.out _ _ ?_
            clear hK K
            refine NoPanic.normal ?_
            go_wp2_with fail
            go_meet
            exact ⟨by rw [HSV.out, HQ1.out, HQ3.out]; rfl, ext_drew _⟩
      · have HQ1 := hid (show decide (tm < tl) = false from by simpa using q1)
        have q1 := HQ1.out
        refine wp_region_noPanic ?_
        refine region_E (S := fun W => W.cell? ⟨g, 1, none⟩ = some (.slice (some ⟨b, o, none⟩) n0 c0) ∧ W.cell? ⟨g, 2, none⟩ = some (.int .i64 tm) ∧ W.cell? ⟨b, o + i * 10 + 2, none⟩ = some (.int .i64 tl) ∧ W.cell? ⟨b, o + i * 10 + 3, none⟩ = some (.bool ib) ∧ W.cell? ⟨b, o + i * 10 + 9, none⟩ = some (.int .i64 rk)) 39 (by kernel_rfl) (by kernel_rfl) (by kernel_rfl) ?_
        refine EG_take 0 (v := ?v157) (by simp only [lga, lgb, lgc]; rfl) (by kernel_rfl) (by kernel_rfl) (by decide) (fun _ _ _ h => h) (Or.inl ⟨by rfl, ?hy157⟩) (KEEP.out _ (ext_drew _)) ?rest157
        case hy157 => intro W hSW; (try dsimp only at hSW); obtain ⟨e1, e2, e3, e4, e5⟩ := hSW; go_simp <;> with_reducible rfl
        try simp only [Act.put, lsa, lsb, lsc]
        refine EG_take 1 (v := ?v158) (by simp only [lga, lgb, lgc]; rfl) (by kernel_rfl) (by kernel_rfl) (by decide) (fun _ _ _ h => h) (Or.inl ⟨by rfl, ?hy158⟩) (KEEP.out _ (ext_drew _)) ?rest158
        case hy158 => intro W hSW; (try dsimp only at hSW); obtain ⟨e1, e2, e3, e4, e5⟩ := hSW; go_simp <;> with_reducible rfl
        try simp only [Act.put, lsa, lsb, lsc]
        refine EG_take 2 (v := ?v159) (by simp only [lga, lgb, lgc]; rfl) (by kernel_rfl) (by kernel_rfl) (by decide) (fun _ _ _ h => h) (Or.inl ⟨by rfl, ?hy159⟩) (KEEP.out _ (ext_drew _)) ?rest159
        case hy159 => intro W hSW; (try dsimp only at hSW); obtain ⟨e1, e2, e3, e4, e5⟩ := hSW; go_simp <;> with_reducible rfl
        try simp only [Act.put, lsa, lsb, lsc]
        refine EG_take 3 (v := ?v160) (by simp only [lga, lgb, lgc]; rfl) (by kernel_rfl) (by kernel_rfl) (by decide) (fun _ _ _ h => h) (Or.inl ⟨by rfl, ?hy160⟩) (KEEP.out _ (ext_drew _)) ?rest160
        case hy160 => intro W hSW; (try dsimp only at hSW); obtain ⟨e1, e2, e3, e4, e5⟩ := hSW; go_simp <;> with_reducible rfl
        try simp only [Act.put, lsa, lsb, lsc]
        refine EG_take 4 (v := ?v161) (by simp only [lga, lgb, lgc]; rfl) (by kernel_rfl) (by kernel_rfl) (by decide) (fun _ _ _ h => h) (Or.inl ⟨by rfl, ?hy161⟩) (KEEP.out _ (ext_drew _)) ?rest161
        case hy161 => intro W hSW; (try dsimp only at hSW); obtain ⟨e1, e2, e3, e4, e5⟩ := hSW; go_simp <;> with_reducible rfl
        try simp only [Act.put, lsa, lsb, lsc]
        refine EG_take 5 (v := ?v162) (by simp only [lga, lgb, lgc]; rfl) (by kernel_rfl) (by kernel_rfl) (by decide) (fun _ _ _ h => h) (Or.inl ⟨by rfl, ?hy162⟩) (KEEP.out _ (ext_drew _)) ?rest162
        case hy162 => intro W hSW; (try dsimp only at hSW); obtain ⟨e1, e2, e3, e4, e5⟩ := hSW; go_simp <;> with_reducible rfl
        try simp only [Act.put, lsa, lsb, lsc]
        refine EG_take 6 (v := ?v163) (by simp only [lga, lgb, lgc]; rfl) (by kernel_rfl) (by kernel_rfl) (by decide) (fun _ _ _ h => h) (Or.inl ⟨by rfl, ?hy163⟩) (KEEP.out _ (ext_drew _)) ?rest163
        case hy163 => intro W hSW; (try dsimp only at hSW); obtain ⟨e1, e2, e3, e4, e5⟩ := hSW; go_simp <;> with_reducible rfl
        try simp only [Act.put, lsa, lsb, lsc]
        refine EG_take 7 (v := ?v164) (by simp only [lga, lgb, lgc]; rfl) (by kernel_rfl) (by kernel_rfl) (by decide) (fun _ _ _ h => h) (Or.inl ⟨by rfl, ?hy164⟩) (KEEP.out _ (ext_drew _)) ?rest164
        case hy164 => intro W hSW; (try dsimp only at hSW); obtain ⟨e1, e2, e3, e4, e5⟩ := hSW; go_simp <;> with_reducible rfl
        try simp only [Act.put, lsa, lsb, lsc]
        refine EG_take 8 (v := ?v165) (by simp only [lga, lgb, lgc]; rfl) (by kernel_rfl) (by kernel_rfl) (by decide) (fun _ _ _ h => h) (Or.inl ⟨by rfl, ?hy165⟩) (KEEP.out _ (ext_drew _)) ?rest165
        case hy165 => intro W hSW; (try dsimp only at hSW); obtain ⟨e1, e2, e3, e4, e5⟩ := hSW; go_simp <;> with_reducible rfl
        try simp only [Act.put, lsa, lsb, lsc]
        refine EG_take 9 (v := ?v166) (by simp only [lga, lgb, lgc]; rfl) (by kernel_rfl) (by kernel_rfl) (by decide) (fun _ _ _ h => h) (Or.inl ⟨by rfl, ?hy166⟩) (KEEP.out _ (ext_drew _)) ?rest166
        case hy166 => intro W hSW; (try dsimp only at hSW); obtain ⟨e1, e2, e3, e4, e5⟩ := hSW; go_simp <;> with_reducible rfl
        try simp only [Act.put, lsa, lsb, lsc]
        refine EG_take 10 (v := ?v167) (by simp only [lga, lgb, lgc]; rfl) (by kernel_rfl) (by kernel_rfl) (by decide) (fun _ _ _ h => h) (Or.inl ⟨by rfl, ?hy167⟩) (KEEP.out _ (ext_drew _)) ?rest167
        case hy167 => intro W hSW; (try dsimp only at hSW); obtain ⟨e1, e2, e3, e4, e5⟩ := hSW; go_simp <;> with_reducible rfl
        try simp only [Act.put, lsa, lsb, lsc]
        refine EG_take 11 (v := ?v168) (by simp only [lga, lgb, lgc]; rfl) (by kernel_rfl) (by kernel_rfl) (by decide) (fun _ _ _ h => h) (Or.inl ⟨by rfl, ?hy168⟩) (KEEP.out _ (ext_drew _)) ?rest168
        case hy168 => intro W hSW; (try dsimp only at hSW); obtain ⟨e1, e2, e3, e4, e5⟩ := hSW; go_simp <;> with_reducible rfl
        try simp only [Act.put, lsa, lsb, lsc]
        refine EG_take 12 (v := ?v169) (by simp only [lga, lgb, lgc]; rfl) (by kernel_rfl) (by kernel_rfl) (by decide) (fun _ _ _ h => h) (Or.inl ⟨by rfl, ?hy169⟩) (KEEP.out _ (ext_drew _)) ?rest169
        case hy169 => intro W hSW; (try dsimp only at hSW); obtain ⟨e1, e2, e3, e4, e5⟩ := hSW; go_simp <;> with_reducible rfl
        try simp only [Act.put, lsa, lsb, lsc]
        refine EG_take 13 (v := ?v170) (by simp only [lga, lgb, lgc]; rfl) (by kernel_rfl) (by kernel_rfl) (by decide) (fun _ _ _ h => h) (Or.inl ⟨by rfl, ?hy170⟩) (KEEP.out _ (ext_drew _)) ?rest170
        case hy170 => intro W hSW; (try dsimp only at hSW); obtain ⟨e1, e2, e3, e4, e5⟩ := hSW; go_simp <;> with_reducible rfl
        try simp only [Act.put, lsa, lsb, lsc]
        refine EG_take 14 (v := ?v171) (by simp only [lga, lgb, lgc]; rfl) (by kernel_rfl) (by kernel_rfl) (by decide) (fun _ _ _ h => h) (Or.inl ⟨by rfl, ?hy171⟩) (KEEP.out _ (ext_drew _)) ?rest171
        case hy171 => intro W hSW; (try dsimp only at hSW); obtain ⟨e1, e2, e3, e4, e5⟩ := hSW; go_simp <;> with_reducible rfl
        try simp only [Act.put, lsa, lsb, lsc]
        refine EG_take 15 (v := ?v172) (by simp only [lga, lgb, lgc]; rfl) (by kernel_rfl) (by kernel_rfl) (by decide) (fun _ _ _ h => h) (Or.inl ⟨by rfl, ?hy172⟩) (KEEP.out _ (ext_drew _)) ?rest172
        case hy172 => intro W hSW; (try dsimp only at hSW); obtain ⟨e1, e2, e3, e4, e5⟩ := hSW; go_simp <;> with_reducible rfl
        try simp only [Act.put, lsa, lsb, lsc]
        refine EG_take 16 (v := ?v173) (by simp only [lga, lgb, lgc]; rfl) (by kernel_rfl) (by kernel_rfl) (by decide) (fun _ _ _ h => h) (Or.inl ⟨by rfl, ?hy173⟩) (KEEP.out _ (ext_drew _)) ?rest173
        case hy173 => intro W hSW; (try dsimp only at hSW); obtain ⟨e1, e2, e3, e4, e5⟩ := hSW; go_simp <;> with_reducible rfl
        try simp only [Act.put, lsa, lsb, lsc]
        refine EG_take 17 (v := ?v174) (by simp only [lga, lgb, lgc]; rfl) (by kernel_rfl) (by kernel_rfl) (by decide) (fun _ _ _ h => h) (Or.inl ⟨by rfl, ?hy174⟩) (KEEP.out _ (ext_drew _)) ?rest174
        case hy174 => intro W hSW; (try dsimp only at hSW); obtain ⟨e1, e2, e3, e4, e5⟩ := hSW; go_simp <;> with_reducible rfl
        try simp only [Act.put, lsa, lsb, lsc]
        refine EG_take 18 (v := undef) (by simp only [lga, lgb, lgc]; rfl) (by kernel_rfl) (by kernel_rfl) (by decide) (fun _ _ _ h => h) (Or.inr ⟨by rfl, rfl⟩) (KEEP.out _ (ext_drew _)) ?rest175
        try simp only [Act.put, lsa, lsb, lsc]
        refine EG_take 19 (v := undef) (by simp only [lga, lgb, lgc]; rfl) (by kernel_rfl) (by kernel_rfl) (by decide) (fun _ _ _ h => h) (Or.inr ⟨by rfl, rfl⟩) (KEEP.out _ (ext_drew _)) ?rest176
        try simp only [Act.put, lsa, lsb, lsc]
        refine EG_take 20 (v := undef) (by simp only [lga, lgb, lgc]; rfl) (by kernel_rfl) (by kernel_rfl) (by decide) (fun _ _ _ h => h) (Or.inr ⟨by rfl, rfl⟩) (KEEP.out _ (ext_drew _)) ?rest177
        try simp only [Act.put, lsa, lsb, lsc]
        refine EG_take 21 (v := undef) (by simp only [lga, lgb, lgc]; rfl) (by kernel_rfl) (by kernel_rfl) (by decide) (fun _ _ _ h => h) (Or.inr ⟨by rfl, rfl⟩) (KEEP.out _ (ext_drew _)) ?rest178
        try simp only [Act.put, lsa, lsb, lsc]
        refine EG_take 22 (v := undef) (by simp only [lga, lgb, lgc]; rfl) (by kernel_rfl) (by kernel_rfl) (by decide) (fun _ _ _ h => h) (Or.inr ⟨by rfl, rfl⟩) (KEEP.out _ (ext_drew _)) ?rest179
        try simp only [Act.put, lsa, lsb, lsc]
        refine EG_take 23 (v := undef) (by simp only [lga, lgb, lgc]; rfl) (by kernel_rfl) (by kernel_rfl) (by decide) (fun _ _ _ h => h) (Or.inr ⟨by rfl, rfl⟩) (KEEP.out _ (ext_drew _)) ?rest180
        try simp only [Act.put, lsa, lsb, lsc]
        refine EG_take 24 (v := undef) (by simp only [lga, lgb, lgc]; rfl) (by kernel_rfl) (by kernel_rfl) (by decide) (fun _ _ _ h => h) (Or.inr ⟨by rfl, rfl⟩) (KEEP.out _ (ext_drew _)) ?rest181
        try simp only [Act.put, lsa, lsb, lsc]
        refine EG_take 25 (v := undef) (by simp only [lga, lgb, lgc]; rfl) (by kernel_rfl) (by kernel_rfl) (by decide) (fun _ _ _ h => h) (Or.inr ⟨by rfl, rfl⟩) (KEEP.out _ (ext_drew _)) ?rest182
        try simp only [Act.put, lsa, lsb, lsc]
        refine EG_take 26 (v := undef) (by simp only [lga, lgb, lgc]; rfl) (by kernel_rfl) (by kernel_rfl) (by decide) (fun _ _ _ h => h) (Or.inr ⟨by rfl, rfl⟩) (KEEP.out _ (ext_drew _)) ?rest183
        try simp only [Act.put, lsa, lsb, lsc]
        refine EG_take 27 (v := undef) (by simp only [lga, lgb, lgc]; rfl) (by kernel_rfl) (by kernel_rfl) (by decide) (fun _ _ _ h => h) (Or.inr ⟨by rfl, rfl⟩) (KEEP.out _ (ext_drew _)) ?rest184
        try simp only [Act.put, lsa, lsb, lsc]
        refine EG_take 28 (v := undef) (by simp only [lga, lgb, lgc]; rfl) (by kernel_rfl) (by kernel_rfl) (by decide) (fun _ _ _ h => h) (Or.inr ⟨by rfl, rfl⟩) (KEEP.out _ (ext_drew _)) ?rest185
        try simp only [Act.put, lsa, lsb, lsc]
        refine EG_take 29 (v := undef) (by simp only [lga, lgb, lgc]; rfl) (by kernel_rfl) (by kernel_rfl) (by decide) (fun _ _ _ h => h) (Or.inr ⟨by rfl, rfl⟩) (KEEP.out _ (ext_drew _)) ?rest186
        try simp only [Act.put, lsa, lsb, lsc]
        refine EG_take 30 (v := undef) (by simp only [lga, lgb, lgc]; rfl) (by kernel_rfl) (by kernel_rfl) (by decide) (fun _ _ _ h => h) (Or.inr ⟨by rfl, rfl⟩) (KEEP.out _ (ext_drew _)) ?rest187
        try simp only [Act.put, lsa, lsb, lsc]
        refine EG_take 31 (v := undef) (by simp only [lga, lgb, lgc]; rfl) (by kernel_rfl) (by kernel_rfl) (by decide) (fun _ _ _ h => h) (Or.inr ⟨by rfl, rfl⟩) (KEEP.out _ (ext_drew _)) ?rest188
        try simp only [Act.put, lsa, lsb, lsc]
        refine EG_take 32 (v := undef) (by simp only [lga, lgb, lgc]; rfl) (by kernel_rfl) (by kernel_rfl) (by decide) (fun _ _ _ h => h) (Or.inr ⟨by rfl, rfl⟩) (KEEP.out _ (ext_drew _)) ?rest189
        try simp only [Act.put, lsa, lsb, lsc]
        refine EG_take 33 (v := undef) (by simp only [lga, lgb, lgc]; rfl) (by kernel_rfl) (by kernel_rfl) (by decide) (fun _ _ _ h => h) (Or.inr ⟨by rfl, rfl⟩) (KEEP.out _ (ext_drew _)) ?rest190
        try simp only [Act.put, lsa, lsb, lsc]
        refine EG_take 34 (v := undef) (by simp only [lga, lgb, lgc]; rfl) (by kernel_rfl) (by kernel_rfl) (by decide) (fun _ _ _ h => h) (Or.inr ⟨by rfl, rfl⟩) (KEEP.out _ (ext_drew _)) ?rest191
        try simp only [Act.put, lsa, lsb, lsc]
        refine EG_take 35 (v := undef) (by simp only [lga, lgb, lgc]; rfl) (by kernel_rfl) (by kernel_rfl) (by decide) (fun _ _ _ h => h) (Or.inr ⟨by rfl, rfl⟩) (KEEP.out _ (ext_drew _)) ?rest192
        try simp only [Act.put, lsa, lsb, lsc]
        refine EG_take 36 (v := undef) (by simp only [lga, lgb, lgc]; rfl) (by kernel_rfl) (by kernel_rfl) (by decide) (fun _ _ _ h => h) (Or.inr ⟨by rfl, rfl⟩) (KEEP.out _ (ext_drew _)) ?rest193
        try simp only [Act.put, lsa, lsb, lsc]
        refine EG_take 37 (v := undef) (by simp only [lga, lgb, lgc]; rfl) (by kernel_rfl) (by kernel_rfl) (by decide) (fun _ _ _ h => h) (Or.inr ⟨by rfl, rfl⟩) (KEEP.out _ (ext_drew _)) ?rest194
        try simp only [Act.put, lsa, lsb, lsc]
        refine EG_take 38 (v := undef) (by simp only [lga, lgb, lgc]; rfl) (by kernel_rfl) (by kernel_rfl) (by decide) (fun _ _ _ h => h) (Or.inr ⟨by rfl, rfl⟩) (KEEP.out _ (ext_drew _)) ?rest195
        try simp only [Act.put, lsa, lsb, lsc]
        refine EG_end (by kernel_rfl) (by simp only [lga, lgb, lgc]; rfl) ?_
        intro K hK0
        have hK := hid hK0
        clear hK0
        go_simp
        refine hK.out _ _ ?_
        clear hK K
        refine NoPanic.normal ?_
        go_wp2_with fail
        go_meet
        exact ⟨by rw [HSV.out, HQ1.out]; rfl, ext_drew _⟩
  case rest =>
    obtain ⟨rfl, x5⟩ := hcut
    obtain ⟨w5, hw5⟩ : ∃ w5, w5 = wc := ⟨_, rfl⟩
    subst hw5
    have H5 := hid (H4.out.ext x5)
    have BR5 := hid (BR4.out.ext x5)
    have S5 := hid (S4.out.ext x5)
    clear x5 H4 BR4 S4
    cases tk
    · have HGS := hid (HG2.out HTK.out)
      clear HG1 HG2
      have AT := at_in H5.out (n := n) (kind := 0) HNM.out
      obtain ⟨o2, ho2⟩ : ∃ o2, idxT T (lower n) 0 = o2 := ⟨_, rfl⟩
      rw [ho2] at AT
      obtain ⟨v2, hv2⟩ : ∃ v, idxV o2 = v := ⟨_, rfl⟩
      rw [hv2] at AT
      have HV2 := hid hv2
      have HO2 := hid ho2
      have IX2 := hid (idxT_cases T (lower n) 0)
      obtain ⟨l2, hl2⟩ : ∃ b, live2 T (lower n) tm = b := ⟨_, rfl⟩
      have HL2 := hid hl2
      clear ho2 hv2 hl2
      go_wp2_with fail
      refine AT.mono ?_
      rintro e w6 ⟨rfl, x6⟩
      have H6 := hid (H5.out.ext x6)
      have BR6 := hid (BR5.out.ext x6)
      have S6 := hid (S5.out.ext x6)
      clear x6 AT H5 BR5 S5
      go_upto_region 17 with (fail)
      go_cut [128] (fun v wx => v = .bool l2 ∧ Ext w6 wx)
      case first =>
        clear HG3 HG4 HENT HVV HNM HH HGR CCH CWI BR6 S6 HW2 XA X1 HWA HGS
        rcases IX2.out with ⟨hn0, _⟩ | ⟨i, hi, hsi, _⟩
        · have ho : o2 = none := HO2.out.symm.trans hn0
          have hv : v2 = -1 := by rw [← HV2.out, ho]; rfl
          clear HV2 HO2
          subst ho hv
          have HSF : Hid (l2 = false) := hid (by rw [← HL2.out]; unfold live2; rw [hn0])
          have KEEP : Hid (∀ W, Ext w6 W → True) := hid (fun _ _ => trivial)
          refine wp_region_noPanic ?_
          refine region_E (S := fun W => True) 16 (by kernel_rfl) (by kernel_rfl) (by kernel_rfl) ?_
          refine EG_take 0 (v := ?v196) (by simp only [lga, lgb, lgc]; rfl) (by kernel_rfl) (by kernel_rfl) (by decide) (fun _ _ _ h => h) (Or.inl ⟨by rfl, ?hy196⟩) (KEEP.out _ (ext_drew _)) ?rest196
          case hy196 => intro W hSW; (try dsimp only at hSW); obtain _ := hSW; go_simp <;> with_reducible rfl
          try simp only [Act.put, lsa, lsb, lsc]
          refine EG_take 1 (v := ?v197) (by simp only [lga, lgb, lgc]; rfl) (by kernel_rfl) (by kernel_rfl) (by decide) (fun _ _ _ h => h) (Or.inl ⟨by rfl, ?hy197⟩) (KEEP.out _ (ext_drew _)) ?rest197
          case hy197 => intro W hSW; (try dsimp only at hSW); obtain _ := hSW; go_simp <;> with_reducible rfl
          try simp only [Act.put, lsa, lsb, lsc]
          refine EG_take 2 (v := ?v198) (by simp only [lga, lgb, lgc]; rfl) (by kernel_rfl) (by kernel_rfl) (by decide) (fun _ _ _ h => h) (Or.inl ⟨by rfl, ?hy198⟩) (KEEP.out _ (ext_drew _)) ?rest198
          case hy198 => intro W hSW; (try dsimp only at hSW); obtain _ := hSW; go_simp <;> with_reducible rfl
          try simp only [Act.put, lsa, lsb, lsc]
          refine EG_take 3 (v := undef) (by simp only [lga, lgb, lgc]; rfl) (by kernel_rfl) (by kernel_rfl) (by decide) (fun _ _ _ h => h) (Or.inr ⟨by rfl, rfl⟩) (KEEP.out _ (ext_drew _)) ?rest199
          try simp only [Act.put, lsa, lsb, lsc]
          refine EG_take 4 (v := undef) (by simp only [lga, lgb, lgc]; rfl) (by kernel_rfl) (by kernel_rfl) (by decide) (fun _ _ _ h => h) (Or.inr ⟨by rfl, rfl⟩) (KEEP.out _ (ext_drew _)) ?rest200
          try simp only [Act.put, lsa, lsb, lsc]
          refine EG_take 5 (v := undef) (by simp only [lga, lgb, lgc]; rfl) (by kernel_rfl) (by kernel_rfl) (by decide) (fun _ _ _ h => h) (Or.inr ⟨by rfl, rfl⟩) (KEEP.out _ (ext_drew _)) ?rest201
          try simp only [Act.put, lsa, lsb, lsc]
          refine EG_take 6 (v := undef) (by simp only [lga, lgb, lgc]; rfl) (by kernel_rfl) (by kernel_rfl) (by decide) (fun _ _ _ h => h) (Or.inr ⟨by rfl, rfl⟩) (KEEP.out _ (ext_drew _)) ?rest202
          try simp only [Act.put, lsa, lsb, lsc]
          refine EG_take 7 (v := undef) (by simp only [lga, lgb, lgc]; rfl) (by kernel_rfl) (by kernel_rfl) (by decide) (fun _ _ _ h => h) (Or.inr ⟨by rfl, rfl⟩) (KEEP.out _ (ext_drew _)) ?rest203
          try simp only [Act.put, lsa, lsb, lsc]
          refine EG_take 8 (v := undef) (by simp only [lga, lgb, lgc]; rfl) (by kernel_rfl) (by kernel_rfl) (by decide) (fun _ _ _ h => h) (Or.inr ⟨by rfl, rfl⟩) (KEEP.out _ (ext_drew _)) ?rest204
          try simp only [Act.put, lsa, lsb, lsc]
          refine EG_take 9 (v := undef) (by simp only [lga, lgb, lgc]; rfl) (by kernel_rfl) (by kernel_rfl) (by decide) (fun _ _ _ h => h) (Or.inr ⟨by rfl, rfl⟩) (KEEP.out _ (ext_drew _)) ?rest205
          try simp only [Act.put, lsa, lsb, lsc]
          refine EG_take 10 (v := undef) (by simp only [lga, lgb, lgc]; rfl) (by kernel_rfl) (by kernel_rfl) (by decide) (fun _ _ _ h => h) (Or.inr ⟨by rfl, rfl⟩) (KEEP.out _ (ext_drew _)) ?rest206
          try simp only [Act.put, lsa, lsb, lsc]
          refine EG_take 11 (v := undef) (by simp only [lga, lgb, lgc]; rfl) (by kernel_rfl) (by kernel_rfl) (by decide) (fun _ _ _ h => h) (Or.inr ⟨by rfl, rfl⟩) (KEEP.out _ (ext_drew _)) ?rest207
          try simp only [Act.put, lsa, lsb, lsc]
          refine EG_take 12 (v := undef) (by simp only [lga, lgb, lgc]; rfl) (by kernel_rfl) (by kernel_rfl) (by decide) (fun _ _ _ h => h) (Or.inr ⟨by rfl, rfl⟩) (KEEP.out _ (ext_drew _)) ?rest208
          try simp only [Act.put, lsa, lsb, lsc]
          refine EG_take 13 (v := undef) (by simp only [lga, lgb, lgc]; rfl) (by kernel_rfl) (by kernel_rfl) (by decide) (fun _ _ _ h => h) (Or.inr ⟨by rfl, rfl⟩) (KEEP.out _ (ext_drew _)) ?rest209
          try simp only [Act.put, lsa, lsb, lsc]
          refine EG_take 14 (v := undef) (by simp only [lga, lgb, lgc]; rfl) (by kernel_rfl) (by kernel_rfl) (by decide) (fun _ _ _ h => h) (Or.inr ⟨by rfl, rfl⟩) (KEEP.out _ (ext_drew _)) ?rest210
          try simp only [Act.put, lsa, lsb, lsc]
          refine EG_take 15 (v := undef) (by simp only [lga, lgb, lgc]; rfl) (by kernel_rfl) (by kernel_rfl) (by decide) (fun _ _ _ h => h) (Or.inr ⟨by rfl, rfl⟩) (KEEP.out _ (ext_drew _)) ?rest211
          try simp only [Act.put, lsa, lsb, lsc]
          refine EG_end (by kernel_rfl) (by simp only [lga, lgb, lgc]; rfl) ?_
          intro K hK0
          have hK := hid hK0
          clear hK0
          go_simp
          refine hK.out _ _ ?_
          clear hK K
          refine NoPanic.normal ?_
          go_wp2_with fail
          go_meet
          exact ⟨by rw [HSF.out], ext_drew _⟩
        · have ho : o2 = some i := HO2.out.symm.trans hsi
          have hv : v2 = (i : Int) := by rw [← HV2.out, ho]; rfl
          clear HV2 HO2
          subst ho hv
          obtain ⟨b, o, hA0, hb0, hc0⟩ := H6.out.at_ (by omega)
          obtain ⟨t, htm, htd, ha⟩ := hc0 i hi
          obtain ⟨tl, htl⟩ : ∃ tl, t.e.x.till = tl := ⟨_, rfl⟩
          obtain ⟨ib, hib⟩ : ∃ ib, isOf t.e.x = ib := ⟨_, rfl⟩
          obtain ⟨rk, hrk⟩ : ∃ rk, rankOf t.e.x = rk := ⟨_, rfl⟩
          obtain ⟨n0, hn0⟩ : ∃ n0, T.length = n0 := ⟨_, rfl⟩
          obtain ⟨c0, hc00⟩ : ∃ c0, c0 = c := ⟨_, rfl⟩
          have hcap := H6.out.r.cap
          have cg : w6.cell? ⟨g, 1, none⟩ = some (.slice A T.length c) := H6.out.b.cell 1
          rw [hA0, hn0, ← hc00] at cg
          rw [hn0] at hi hcap
          rw [← hc00] at hcap
          have HSV : Hid (l2 = decide (tm < tl)) := hid (by rw [← HL2.out]; unfold live2; rw [hsi]; simp only; rw [htd, htl])
          have a2 := ha 2 _ rfl
          have a3 := ha 3 _ rfl
          have a9 := ha 9 _ rfl
          rw [htl] at a2
          rw [hib] at a3
          rw [hrk] at a9
          have KEEP : Hid (∀ W, Ext w6 W → W.cell? ⟨g, 1, none⟩ = some (.slice (some ⟨b, o, none⟩) n0 c0) ∧ W.cell? ⟨g, 2, none⟩ = some (.int .i64 tm) ∧ W.cell? ⟨b, o + i * 10 + 2, none⟩ = some (.int .i64 tl) ∧ W.cell? ⟨b, o + i * 10 + 3, none⟩ = some (.bool ib) ∧ W.cell? ⟨b, o + i * 10 + 9, none⟩ = some (.int .i64 rk)) := hid (fun W y => ⟨(y.cell (p := ⟨g, 1, none⟩) H6.out.b.lt).trans cg, (H6.out.b.ext y).cell 2, (y.cell (p := ⟨b, _, none⟩) hb0).trans a2, (y.cell (p := ⟨b, _, none⟩) hb0).trans a3, (y.cell (p := ⟨b, _, none⟩) hb0).trans a9⟩)
          have i1 : (0 : Int) ≤ (i : Int) := by omega
          have hn9 : n0 ≤ 4096 := by have := NUM.out.2; omega
          clear cg a2 a3 a9 ha hc0 hb0 htl hib hrk hn0 htd htm hA0 hsi hc00
          by_cases q1 : tm < tl
          · have HQ1 := hid (show decide (tm < tl) = true from by simpa using q1)
            have q1 := HQ1.out
            refine wp_region_noPanic ?_
            refine region_E (S := fun W => W.cell? ⟨g, 1, none⟩ = some (.slice (some ⟨b, o, none⟩) n0 c0) ∧ W.cell? ⟨g, 2, none⟩ = some (.int .i64 tm) ∧ W.cell? ⟨b, o + i * 10 + 2, none⟩ = some (.int .i64 tl) ∧ W.cell? ⟨b, o + i * 10 + 3, none⟩ = some (.bool ib) ∧ W.cell? ⟨b, o + i * 10 + 9, none⟩ = some (.int .i64 rk)) 16 (by kernel_rfl) (by kernel_rfl) (by kernel_rfl) ?_
            refine EG_take 0 (v := ?v212) (by simp only [lga, lgb, lgc]; rfl) (by kernel_rfl) (by kernel_rfl) (by decide) (fun _ _ _ h => h) (Or.inl ⟨by rfl, ?hy212⟩) (KEEP.out _ (ext_drew _)) ?rest212
            case hy212 => intro W hSW; (try dsimp only at hSW); obtain ⟨e1, e2, e3, e4, e5⟩ := hSW; go_simp <;> with_reducible rfl
            try simp only [Act.put, lsa, lsb, lsc]
            refine EG_take 1 (v := ?v213) (by simp only [lga, lgb, lgc]; rfl) (by kernel_rfl) (by kernel_rfl) (by decide) (fun _ _ _ h => h) (Or.inl ⟨by rfl, ?hy213⟩) (KEEP.out _ (ext_drew _)) ?rest213
            case hy213 => intro W hSW; (try dsimp only at hSW); obtain ⟨e1, e2, e3, e4, e5⟩ := hSW; go_simp <;> with_reducible rfl
            try simp only [Act.put, lsa, lsb, lsc]
            refine EG_take 2 (v := ?v214) (by simp only [lga, lgb, lgc]; rfl) (by kernel_rfl) (by kernel_rfl) (by decide) (fun _ _ _ h => h) (Or.inl ⟨by rfl, ?hy214⟩) (KEEP.out _ (ext_drew _)) ?rest214
            case hy214 => intro W hSW; (try dsimp only at hSW); obtain ⟨e1, e2, e3, e4, e5⟩ := hSW; go_simp <;> with_reducible rfl
            try simp only [Act.put, lsa, lsb, lsc]
            refine EG_take 3 (v := ?v215) (by simp only [lga, lgb, lgc]; rfl) (by kernel_rfl) (by kernel_rfl) (by decide) (fun _ _ _ h => h) (Or.inl ⟨by rfl, ?hy215⟩) (KEEP.out _ (ext_drew _)) ?rest215
            case hy215 => intro W hSW; (try dsimp only at hSW); obtain ⟨e1, e2, e3, e4, e5⟩ := hSW; go_simp <;> with_reducible rfl
            try simp only [Act.put, lsa, lsb, lsc]
            refine EG_take 4 (v := ?v216) (by simp only [lga, lgb, lgc]; rfl) (by kernel_rfl) (by kernel_rfl) (by decide) (fun _ _ _ h => h) (Or.inl ⟨by rfl, ?hy216⟩) (KEEP.out _ (ext_drew _)) ?rest216
            case hy216 => intro W hSW; (try dsimp only at hSW); obtain ⟨e1, e2, e3, e4, e5⟩ := hSW; go_simp <;> with_reducible rfl
            try simp only [Act.put, lsa, lsb, lsc]
            refine EG_take 5 (v := ?v217) (by simp only [lga, lgb, lgc]; rfl) (by kernel_rfl) (by kernel_rfl) (by decide) (fun _ _ _ h => h) (Or.inl ⟨by rfl, ?hy217⟩) (KEEP.out _ (ext_drew _)) ?rest217
            case hy217 => intro W hSW; (try dsimp only at hSW); obtain ⟨e1, e2, e3, e4, e5⟩ := hSW; go_simp <;> with_reducible rfl
            try simp only [Act.put, lsa, lsb, lsc]
            refine EG_take 6 (v := ?v218) (by simp only [lga, lgb, lgc]; rfl) (by kernel_rfl) (by kernel_rfl) (by decide) (fun _ _ _ h => h) (Or.inl ⟨by rfl, ?hy218⟩) (KEEP.out _ (ext_drew _)) ?rest218
            case hy218 => intro W hSW; (try dsimp only at hSW); obtain ⟨e1, e2, e3, e4, e5⟩ := hSW; go_simp <;> with_reducible rfl
            try simp only [Act.put, lsa, lsb, lsc]
            refine EG_take 7 (v := ?v219) (by simp only [lga, lgb, lgc]; rfl) (by kernel_rfl) (by kernel_rfl) (by decide) (fun _ _ _ h => h) (Or.inl ⟨by rfl, ?hy219⟩) (KEEP.out _ (ext_drew _)) ?rest219
            case hy219 => intro W hSW; (try dsimp only at hSW); obtain ⟨e1, e2, e3, e4, e5⟩ := hSW; go_simp <;> with_reducible rfl
            try simp only [Act.put, lsa, lsb, lsc]
            refine EG_take 8 (v := ?v220) (by simp only [lga, lgb, lgc]; rfl) (by kernel_rfl) (by kernel_rfl) (by decide) (fun _ _ _ h => h) (Or.inl ⟨by rfl, ?hy220⟩) (KEEP.out _ (ext_drew _)) ?rest220
            case hy220 => intro W hSW; (try dsimp only at hSW); obtain ⟨e1, e2, e3, e4, e5⟩ := hSW; go_simp <;> with_reducible rfl
            try simp only [Act.put, lsa, lsb, lsc]
            refine EG_take 9 (v := ?v221) (by simp only [lga, lgb, lgc]; rfl) (by kernel_rfl) (by kernel_rfl) (by decide) (fun _ _ _ h => h) (Or.inl ⟨by rfl, ?hy221⟩) (KEEP.out _ (ext_drew _)) ?rest221
            case hy221 => intro W hSW; (try dsimp only at hSW); obtain ⟨e1, e2, e3, e4, e5⟩ := hSW; go_simp <;> with_reducible rfl
            try simp only [Act.put, lsa, lsb, lsc]
            refine EG_take 10 (v := ?v222) (by simp only [lga, lgb, lgc]; rfl) (by kernel_rfl) (by kernel_rfl) (by decide) (fun _ _ _ h => h) (Or.inl ⟨by rfl, ?hy222⟩) (KEEP.out _ (ext_drew _)) ?rest222
            case hy222 => intro W hSW; (try dsimp only at hSW); obtain ⟨e1, e2, e3, e4, e5⟩ := hSW; go_simp <;> with_reducible rfl
            try simp only [Act.put, lsa, lsb, lsc]
            refine EG_take 11 (v := ?v223) (by simp only [lga, lgb, lgc]; rfl) (by kernel_rfl) (by kernel_rfl) (by decide) (fun _ _ _ h => h) (Or.inl ⟨by rfl, ?hy223⟩) (KEEP.out _ (ext_drew _)) ?rest223
            case hy223 => intro W hSW; (try dsimp only at hSW); obtain ⟨e1, e2, e3, e4, e5⟩ := hSW; go_simp <;> with_reducible rfl
            try simp only [Act.put, lsa, lsb, lsc]
            refine EG_take 12 (v := ?v224) (by simp only [lga, lgb, lgc]; rfl) (by kernel_rfl) (by kernel_rfl) (by decide) (fun _ _ _ h => h) (Or.inl ⟨by rfl, ?hy224⟩) (KEEP.out _ (ext_drew _)) ?rest224
            case hy224 => intro W hSW; (try dsimp only at hSW); obtain ⟨e1, e2, e3, e4, e5⟩ := hSW; go_simp <;> with_reducible rfl
            try simp only [Act.put, lsa, lsb, lsc]
            refine EG_take 13 (v := ?v225) (by simp only [lga, lgb, lgc]; rfl) (by kernel_rfl) (by kernel_rfl) (by decide) (fun _ _ _ h => h) (Or.inl ⟨by rfl, ?hy225⟩) (KEEP.out _ (ext_drew _)) ?rest225
            case hy225 => intro W hSW; (try dsimp only at hSW); obtain ⟨e1, e2, e3, e4, e5⟩ := hSW; go_simp <;> with_reducible rfl
            try simp only [Act.put, lsa, lsb, lsc]
            refine EG_take 14 (v := ?v226) (by simp only [lga, lgb, lgc]; rfl) (by kernel_rfl) (by kernel_rfl) (by decide) (fun _ _ _ h => h) (Or.inl ⟨by rfl, ?hy226⟩) (KEEP.out _ (ext_drew _)) ?rest226
            case hy226 => intro W hSW; (try dsimp only at hSW); obtain ⟨e1, e2, e3, e4, e5⟩ := hSW; go_simp <;> with_reducible rfl
            try simp only [Act.put, lsa, lsb, lsc]
            refine EG_take 15 (v := ?v227) (by simp only [lga, lgb, lgc]; rfl) (by kernel_rfl) (by kernel_rfl) (by decide) (fun _ _ _ h => h) (Or.inl ⟨by rfl, ?hy227⟩) (KEEP.out _ (ext_drew _)) ?rest227
            case hy227 => intro W hSW; (try dsimp only at hSW); obtain ⟨e1, e2, e3, e4, e5⟩ := hSW; go_simp <;> with_reducible rfl
            try simp only [Act.put, lsa, lsb, lsc]
            refine EG_end (by kernel_rfl) (by simp only [lga, lgb, lgc]; rfl) ?_
            intro K hK0
            have hK := hid hK0
            clear hK0
            go_simp
            refine hK.out _ _ ?_
            clear hK K
            refine NoPanic.normal ?_
            go_wp2_with fail
            go_meet
            exact ⟨by rw [HSV.out, HQ1.out], ext_drew _⟩
          · have HQ1 := hid (show decide (tm < tl) = false from by simpa using q1)
            have q1 := HQ1.out
            refine wp_region_noPanic ?_
            refine region_E (S := fun W => W.cell? ⟨g, 1, none⟩ = some (.slice (some ⟨b, o, none⟩) n0 c0) ∧ W.cell? ⟨g, 2, none⟩ = some (.int .i64 tm) ∧ W.cell? ⟨b, o + i * 10 + 2, none⟩ = some (.int .i64 tl) ∧ W.cell? ⟨b, o + i * 10 + 3, none⟩ = some (.bool ib) ∧ W.cell? ⟨b, o + i * 10 + 9, none⟩ = some (.int .i64 rk)) 16 (by kernel_rfl) (by kernel_rfl) (by kernel_rfl) ?_
            refine EG_take 0 (v := ?v228) (by simp only [lga, lgb, lgc]; rfl) (by kernel_rfl) (by kernel_rfl) (by decide) (fun _ _ _ h => h) (Or.inl ⟨by rfl, ?hy228⟩) (KEEP.out _ (ext_drew _)) ?rest228
            case hy228 => intro W hSW; (try dsimp only at hSW); obtain ⟨e1, e2, e3, e4, e5⟩ := hSW; go_simp <;> with_reducible rfl
            try simp only [Act.put, lsa, lsb, lsc]
            refine EG_take 1 (v := ?v229) (by simp only [lga, lgb, lgc]; rfl) (by kernel_rfl) (by kernel_rfl) (by decide) (fun _ _ _ h => h) (Or.inl ⟨by rfl, ?hy229⟩) (KEEP.out _ (ext_drew _)) ?rest229
            case hy229 => intro W hSW; (try dsimp only at hSW); obtain ⟨e1, e2, e3, e4, e5⟩ := hSW; go_simp <;> with_reducible rfl
            try simp only [Act.put, lsa, lsb, lsc]
            refine EG_take 2 (v := ?v230) (by simp only [lga, lgb, lgc]; rfl) (by kernel_rfl) (by kernel_rfl) (by decide) (fun _ _ _ h => h) (Or.inl ⟨by rfl, ?hy230⟩) (KEEP.out _ (ext_drew _)) ?rest230
            case hy230 => intro W hSW; (try dsimp only at hSW); obtain ⟨e1, e2, e3, e4, e5⟩ := hSW; go_simp <;> with_reducible rfl
            try simp only [Act.put, lsa, lsb, lsc]
            refine EG_take 3 (v := ?v231) (by simp only [lga, lgb, lgc]; rfl) (by kernel_rfl) (by kernel_rfl) (by decide) (fun _ _ _ h => h) (Or.inl ⟨by rfl, ?hy231⟩) (KEEP.out _ (ext_drew _)) ?rest231
            case hy231 => intro W hSW; (try dsimp only at hSW); obtain ⟨e1, e2, e3, e4, e5⟩ := hSW; go_simp <;> with_reducible rfl
            try simp only [Act.put, lsa, lsb, lsc]
            refine EG_take 4 (v := ?v232) (by simp only [lga, lgb, lgc]; rfl) (by kernel_rfl) (by kernel_rfl) (by decide) (fun _ _ _ h => h) (Or.inl ⟨by rfl, ?hy232⟩) (KEEP.out _ (ext_drew _)) ?rest232
            case hy232 => intro W hSW; (try dsimp only at hSW); obtain ⟨e1, e2, e3, e4, e5⟩ := hSW; go_simp <;> with_reducible rfl
            try simp only [Act.put, lsa, lsb, lsc]
            refine EG_take 5 (v := ?v233) (by simp only [lga, lgb, lgc]; rfl) (by kernel_rfl) (by kernel_rfl) (by decide) (fun _ _ _ h => h) (Or.inl ⟨by rfl, ?hy233⟩) (KEEP.out _ (ext_drew _)) ?rest233
            case hy233 => intro W hSW; (try dsimp only at hSW); obtain ⟨e1, e2, e3, e4, e5⟩ := hSW; go_simp <;> with_reducible rfl
            try simp only [Act.put, lsa, lsb, lsc]
            refine EG_take 6 (v := ?v234) (by simp only [lga, lgb, lgc]; rfl) (by kernel_rfl) (by kernel_rfl) (by decide) (fun _ _ _ h => h) (Or.inl ⟨by rfl, ?hy234⟩) (KEEP.out _ (ext_drew _)) ?rest234
            case hy234 => intro W hSW; (try dsimp only at hSW); obtain ⟨e1, e2, e3, e4, e5⟩ := hSW; go_simp <;> with_reducible rfl
            try simp only [Act.put, lsa, lsb, lsc]
            refine EG_take 7 (v := ?v235) (by simp only [lga, lgb, lgc]; rfl) (by kernel_rfl) (by kernel_rfl) (by decide) (fun _ _ _ h => h) (Or.inl ⟨by rfl, ?hy235⟩) (KEEP.out _ (ext_drew _)) ?rest235
            case hy235 => intro W hSW; (try dsimp only at hSW); obtain ⟨e1, e2, e3, e4, e5⟩ := hSW; go_simp <;> with_reducible rfl
            try simp only [Act.put, lsa, lsb, lsc]
            refine EG_take 8 (v := ?v236) (by simp only [lga, lgb, lgc]; rfl) (by kernel_rfl) (by kernel_rfl) (by decide) (fun _ _ _ h => h) (Or.inl ⟨by rfl, ?hy236⟩) (KEEP.out _ (ext_drew _)) ?rest236
            case hy236 => intro W hSW; (try dsimp only at hSW); obtain ⟨e1, e2, e3, e4, e5⟩ := hSW; go_simp <;> with_reducible rfl
            try simp only [Act.put, lsa, lsb, lsc]
            refine EG_take 9 (v := ?v237) (by simp only [lga, lgb, lgc]; rfl) (by kernel_rfl) (by kernel_rfl) (by decide) (fun _ _ _ h => h) (Or.inl ⟨by rfl, ?hy237⟩) (KEEP.out _ (ext_drew _)) ?rest237
            case hy237 => intro W hSW; (try dsimp only at hSW); obtain ⟨e1, e2, e3, e4, e5⟩ := hSW; go_simp <;> with_reducible rfl
            try simp only [Act.put, lsa, lsb, lsc]
            refine EG_take 10 (v := ?v238) (by simp only [lga, lgb, lgc]; rfl) (by kernel_rfl) (by kernel_rfl) (by decide) (fun _ _ _ h => h) (Or.inl ⟨by rfl, ?hy238⟩) (KEEP.out _ (ext_drew _)) ?rest238
            case hy238 => intro W hSW; (try dsimp only at hSW); obtain ⟨e1, e2, e3, e4, e5⟩ := hSW; go_simp <;> with_reducible rfl
            try simp only [Act.put, lsa, lsb, lsc]
            refine EG_take 11 (v := ?v239) (by simp only [lga, lgb, lgc]; rfl) (by kernel_rfl) (by kernel_rfl) (by decide) (fun _ _ _ h => h) (Or.inl ⟨by rfl, ?hy239⟩) (KEEP.out _ (ext_drew _)) ?rest239
            case hy239 => intro W hSW; (try dsimp only at hSW); obtain ⟨e1, e2, e3, e4, e5⟩ := hSW; go_simp <;> with_reducible rfl
            try simp only [Act.put, lsa, lsb, lsc]
            refine EG_take 12 (v := ?v240) (by simp only [lga, lgb, lgc]; rfl) (by kernel_rfl) (by kernel_rfl) (by decide) (fun _ _ _ h => h) (Or.inl ⟨by rfl, ?hy240⟩) (KEEP.out _ (ext_drew _)) ?rest240
            case hy240 => intro W hSW; (try dsimp only at hSW); obtain ⟨e1, e2, e3, e4, e5⟩ := hSW; go_simp <;> with_reducible rfl
            try simp only [Act.put, lsa, lsb, lsc]
            refine EG_take 13 (v := ?v241) (by simp only [lga, lgb, lgc]; rfl) (by kernel_rfl) (by kernel_rfl) (by decide) (fun _ _ _ h => h) (Or.inl ⟨by rfl, ?hy241⟩) (KEEP.out _ (ext_drew _)) ?rest241
            case hy241 => intro W hSW; (try dsimp only at hSW); obtain ⟨e1, e2, e3, e4, e5⟩ := hSW; go_simp <;> with_reducible rfl
            try simp only [Act.put, lsa, lsb, lsc]
            refine EG_take 14 (v := ?v242) (by simp only [lga, lgb, lgc]; rfl) (by kernel_rfl) (by kernel_rfl) (by decide) (fun _ _ _ h => h) (Or.inl ⟨by rfl, ?hy242⟩) (KEEP.out _ (ext_drew _)) ?rest242
            case hy242 => intro W hSW; (try dsimp only at hSW); obtain ⟨e1, e2, e3, e4, e5⟩ := hSW; go_simp <;> with_reducible rfl
            try simp only [Act.put, lsa, lsb, lsc]
            refine EG_take 15 (v := ?v243) (by simp only [lga, lgb, lgc]; rfl) (by kernel_rfl) (by kernel_rfl) (by decide) (fun _ _ _ h => h) (Or.inl ⟨by rfl, ?hy243⟩) (KEEP.out _ (ext_drew _)) ?rest243
            case hy243 => intro W hSW; (try dsimp only at hSW); obtain ⟨e1, e2, e3, e4, e5⟩ := hSW; go_simp <;> with_reducible rfl
            try simp only [Act.put, lsa, lsb, lsc]
            refine EG_end (by kernel_rfl) (by simp only [lga, lgb, lgc]; rfl) ?_
            intro K hK0
            have hK := hid hK0
            clear hK0
            go_simp
            refine hK.out _ _ ?_
            clear hK K
            refine NoPanic.normal ?_
            go_wp2_with fail
            go_meet
            exact ⟨by rw [HSV.out, HQ1.out], ext_drew _⟩
      case rest =>
        obtain ⟨rfl, x7⟩ := hcut
        obtain ⟨w7, hw7⟩ : ∃ w7, w7 = wc := ⟨_, rfl⟩
        subst hw7
        have H7 := hid (H6.out.ext x7)
        have BR7 := hid (BR6.out.ext x7)
        have S7 := hid (S6.out.ext x7)
        clear x7 H6 BR6 S6
        cases l2
        · have hz := HG4.out HL2.out
          have hp := hid (HGS.out.trans hz)
          have rc0 := BR7.out.cell 0
          have rc1 := BR7.out.cell 1
          have rc2 := BR7.out.cell 2
          have rc3 := BR7.out.cell 3
          have rc4 := BR7.out.cell 4
          have rc5 := BR7.out.cell 5
          have rc6 := BR7.out.cell 6
          simp at rc0 rc1 rc2 rc3 rc4 rc5 rc6
          have rf := BR7.out.frozen
          go_wp2_with fail
          have sF : Shy (fun k => k = gr) w7 (((((((w7.setCell ⟨gr, 0, none⟩ (.int .i64 0)).setCell ⟨gr, 1, none⟩ (.string ⟨#[]⟩)).setCell ⟨gr, 2, none⟩ (.int .i64 0)).setCell ⟨gr, 3, none⟩ (.int .i64 0)).setCell ⟨gr, 4, none⟩ (.int .i64 0)).setCell ⟨gr, 5, none⟩ (.slice none 0 0)).setCell ⟨gr, 6, none⟩ (.int .i64 0)) := ((((((((Shy.refl w7 (U := fun k => k = gr)).set (b := gr) (fun _ => rfl) 0 (.int .i64 0)).set (b := gr) (fun _ => rfl) 1 (.string ⟨#[]⟩)).set (b := gr) (fun _ => rfl) 2 (.int .i64 0)).set (b := gr) (fun _ => rfl) 3 (.int .i64 0)).set (b := gr) (fun _ => rfl) 4 (.int .i64 0)).set (b := gr) (fun _ => rfl) 5 (.slice none 0 0)).set (b := gr) (fun _ => rfl) 6 (.int .i64 0))
          have bF := (((((((BR7.out.set_ 0 (.int .i64 0)).set_ 1 (.string ⟨#[]⟩)).set_ 2 (.int .i64 0)).set_ 3 (.int .i64 0)).set_ 4 (.int .i64 0)).set_ 5 (.slice none 0 0)).set_ 6 (.int .i64 0))
          obtain ⟨wF, hwF⟩ : ∃ wF, (((((((w7.setCell ⟨gr, 0, none⟩ (.int .i64 0)).setCell ⟨gr, 1, none⟩ (.string ⟨#[]⟩)).setCell ⟨gr, 2, none⟩ (.int .i64 0)).setCell ⟨gr, 3, none⟩ (.int .i64 0)).setCell ⟨gr, 4, none⟩ (.int .i64 0)).setCell ⟨gr, 5, none⟩ (.slice none 0 0)).setCell ⟨gr, 6, none⟩ (.int .i64 0)) = wF := ⟨_, rfl⟩
          rw [hwF] at sF bF ⊢
          clear hwF rf rc0 rc1 rc2 rc3 rc4 rc5 rc6
          have f0 := bF.cell 0
          have f1 := bF.cell 1
          have f2 := bF.cell 2
          have f3 := bF.cell 3
          have f4 := bF.cell 4
          have f5 := bF.cell 5
          have f6 := bF.cell 6
          simp at f0 f1 f2 f3 f4 f5 f6
          refine bodyPost_ret (by simp [results, Try.results23, go_sem, f0, f1, f2, f3, f4, f5, f6]; rfl) rfl ?_
          have fin := get_fin HH.out HVV.out HGR.out H7.out S7.out sF (.inl ⟨rfl, rfl⟩) (fun t ht => ht)
          rw [hp.out]
          exact ⟨none, 0, rfl, OwnG.nil _ _ _ _ _, fin.1, fin.2⟩
        · obtain ⟨i, hi, hsi, hlt0⟩ : ∃ i, i < T.length ∧ o2 = some i ∧ tm < (T.getD i tr0).e.x.till := by
            have h := HL2.out
            unfold live2 at h
            rcases IX2.out with ⟨h1, _⟩ | ⟨i, hi, h1, _⟩
            · rw [h1] at h; simp at h
            · rw [h1] at h
              exact ⟨i, hi, HO2.out.symm.trans h1, by simpa using h⟩
          have hp := HGS.out.trans (HG3.out i (HO2.out.trans hsi) hlt0)
          clear hlt0
          have hv : v2 = (i : Int) := by rw [← HV2.out, hsi]; rfl
          clear HV2 HO2
          subst hsi hv
          have HEN := HENT.out (T.getD i tr0) (getT_mem hi)
          obtain ⟨r, hr⟩ : ∃ r, T.getD i tr0 = r := ⟨_, rfl⟩
          have hrm : r ∈ backT T i := by unfold backT; rw [hr]; simp
          have RU : Calls Try.prog 53 #[pt g, .int .i64 i] w7 fun e w' => UsedD w7 w' g most tm (backT T i) r e := by
            have := rused H7.out hi NUM.out.2
            rw [hr] at this
            unfold backT
            rw [hr]
            exact this
          rw [hr] at hp HEN
          have HP := hid hp
          have HENR := hid HEN
          have HRM := hid hrm
          have HI := hid hi
          obtain ⟨rn, rk0, tl, ib, sn, sty, scl, sttl, rA, sl, rc, rrk, hcs, htl, hib, hrk, hsn, hsty, hscl, hrA, hsl, hrc⟩ := cells10 r
          have HNAMES := hid (And.intro hsn (And.intro hsty (And.intro hscl (And.intro hrA (And.intro hsl hrc)))))
          have HTL := hid htl
          have HIB := hid hib
          have htb := HEN.2.1
          rw [htl] at htb
          have HTB := hid htb
          simp only [pt] at RU
          clear hp HEN hrm hr htl hib hrk hsn hsty hscl hrA hsl hrc htb
          go_wp2_with fail
          refine RU.mono ?_
          rintro e w8 ⟨A8, c8, rfl, H8, S8, L8⟩
          rw [hcs]
          have H8 := hid H8
          have BR8 := hid (BR7.out.shy S8 (fun e => by have h1 := HH.out.b.lt; have h2 := HGR.out; omega))
          have L8 := hid (fun k hk => Nat.lt_of_lt_of_le BR7.out.lt (L8 k hk))
          have S8 := hid (S7.out.trans S8 (fun k _ e => e))
          have xx := ext_alloc w8 (.cells #[.string rn, .int .i64 rk0, .int .i64 tl, .bool ib, .string sn, .int .i64 sty, .int .i64 scl, .int .i64 sttl, .slice rA sl rc, .int .i64 rrk] 100)
          have bx := Blk.new w8 100 #[.string rn, .int .i64 rk0, .int .i64 tl, .bool ib, .string sn, .int .i64 sty, .int .i64 scl, .int .i64 sttl, .slice rA sl rc, .int .i64 rrk]
          obtain ⟨wx, hwx⟩ : ∃ wx, w8.alloc (.cells #[.string rn, .int .i64 rk0, .int .i64 tl, .bool ib, .string sn, .int .i64 sty, .int .i64 scl, .int .i64 sttl, .slice rA sl rc, .int .i64 rrk] 100) = wx := ⟨_, rfl⟩
          obtain ⟨gx, hgx⟩ : ∃ gx, w8.heap.size = gx := ⟨_, rfl⟩
          rw [hwx] at xx bx
          rw [hgx] at bx
          have XX := hid xx
          have BX := hid bx
          have HCS := hid hcs
          clear xx bx hcs RU
          go_upto_region 19 with (fail)
          have HGX := hid hgx
          clear hwx hgx
          have HX := hid (H8.out.ext (ext_trans XX.out (ext_drew _)))
          have SX := hid (S8.out.ext (ext_trans XX.out (ext_drew _)))
          have BRX := hid (BR8.out.ext (ext_trans XX.out (ext_drew _)))
          have BXX := hid (BX.out.ext (ext_drew _))
          obtain ⟨wd, hwd⟩ : ∃ wd, wx.drew = wd := ⟨_, rfl⟩
          rw [hwd] at HX SX BRX BXX
          obtain ⟨lf, hlf⟩ : ∃ lf, lf = tl - tm := ⟨_, rfl⟩
          have HLF := hid hlf
          have z1 : wrap64 (tl - tm) = lf := by rw [hlf]; exact IntWalk.wrap64_in _ (by have h1 := NUM.out.1; have h2 := HTB.out; omega)
          have z2 : IntKind.i64.wrap (tl - tm) = lf := by rw [hlf]; exact IntWalk.i64_in _ (by have h1 := NUM.out.1; have h2 := HTB.out; omega)
          clear hlf
          have KEEP : Hid (∀ W, Ext wx W → W.cell? ⟨gx, 2, none⟩ = some (.int .i64 tl) ∧ W.cell? ⟨g, 2, none⟩ = some (.int .i64 tm)) := hid (fun W y => ⟨(BX.out.ext y).cell 2, ((H8.out.ext XX.out).b.ext y).cell 2⟩)
          have rc0 := BRX.out.cell 0
          have rc1 := BRX.out.cell 1
          have rc2 := BRX.out.cell 2
          have rc3 := BRX.out.cell 3
          have rc4 := BRX.out.cell 4
          have rc5 := BRX.out.cell 5
          have rc6 := BRX.out.cell 6
          simp at rc0 rc1 rc2 rc3 rc4 rc5 rc6
          have rf := BRX.out.frozen
          refine wp_region_noPanic ?_
          refine region_E (S := fun W => W.cell? ⟨gx, 2, none⟩ = some (.int .i64 tl) ∧ W.cell? ⟨g, 2, none⟩ = some (.int .i64 tm)) 8 (by kernel_rfl) (by kernel_rfl) (by kernel_rfl) ?_
          refine EG_take 0 (v := ?v244) (by simp only [lga, lgb, lgc]; rfl) (by kernel_rfl) (by kernel_rfl) (by decide) (fun _ _ _ h => h) (Or.inl ⟨by rfl, ?hy244⟩) (KEEP.out _ (ext_drew _)) ?rest244
          case hy244 => intro W hSW; (try dsimp only at hSW); obtain ⟨e0, e1⟩ := hSW; go_simp <;> with_reducible rfl
          try simp only [Act.put, lsa, lsb, lsc]
          refine EG_take 1 (v := ?v245) (by simp only [lga, lgb, lgc]; rfl) (by kernel_rfl) (by kernel_rfl) (by decide) (fun _ _ _ h => h) (Or.inl ⟨by rfl, ?hy245⟩) (KEEP.out _ (ext_drew _)) ?rest245
          case hy245 => intro W hSW; (try dsimp only at hSW); obtain ⟨e0, e1⟩ := hSW; go_simp <;> with_reducible rfl
          try simp only [Act.put, lsa, lsb, lsc]
          refine EG_take 2 (v := ?v246) (by simp only [lga, lgb, lgc]; rfl) (by kernel_rfl) (by kernel_rfl) (by decide) (fun _ _ _ h => h) (Or.inl ⟨by rfl, ?hy246⟩) (KEEP.out _ (ext_drew _)) ?rest246
          case hy246 => intro W hSW; (try dsimp only at hSW); obtain ⟨e0, e1⟩ := hSW; go_simp <;> with_reducible rfl
          try simp only [Act.put, lsa, lsb, lsc]
          refine EG_take 3 (v := ?v247) (by simp only [lga, lgb, lgc]; rfl) (by kernel_rfl) (by kernel_rfl) (by decide) (fun _ _ _ h => h) (Or.inl ⟨by rfl, ?hy247⟩) (KEEP.out _ (ext_drew _)) ?rest247
          case hy247 => intro W hSW; (try dsimp only at hSW); obtain ⟨e0, e1⟩ := hSW; go_simp <;> with_reducible rfl
          try simp only [Act.put, lsa, lsb, lsc]
          refine EG_take 4 (v := ?v248) (by simp only [lga, lgb, lgc]; rfl) (by kernel_rfl) (by kernel_rfl) (by decide) (fun _ _ _ h => h) (Or.inl ⟨by rfl, ?hy248⟩) (KEEP.out _ (ext_drew _)) ?rest248
          case hy248 => intro W hSW; (try dsimp only at hSW); obtain ⟨e0, e1⟩ := hSW; go_simp <;> with_reducible rfl
          try simp only [Act.put, lsa, lsb, lsc]
          refine EG_take 5 (v := ?v249) (by simp only [lga, lgb, lgc]; rfl) (by kernel_rfl) (by kernel_rfl) (by decide) (fun _ _ _ h => h) (Or.inl ⟨by rfl, ?hy249⟩) (KEEP.out _ (ext_drew _)) ?rest249
          case hy249 => intro W hSW; (try dsimp only at hSW); obtain ⟨e0, e1⟩ := hSW; go_simp <;> with_reducible rfl
          try simp only [Act.put, lsa, lsb, lsc]
          refine EG_take 6 (v := ?v250) (by simp only [lga, lgb, lgc]; rfl) (by kernel_rfl) (by kernel_rfl) (by decide) (fun _ _ _ h => h) (Or.inl ⟨by rfl, ?hy250⟩) (KEEP.out _ (ext_drew _)) ?rest250
          case hy250 => intro W hSW; (try dsimp only at hSW); obtain ⟨e0, e1⟩ := hSW; go_simp <;> with_reducible rfl
          try simp only [Act.put, lsa, lsb, lsc]
          refine EG_take 7 (v := ?v251) (by simp only [lga, lgb, lgc]; rfl) (by kernel_rfl) (by kernel_rfl) (by decide) (fun _ _ _ h => h) (Or.inl ⟨by rfl, ?hy251⟩) (KEEP.out _ (ext_drew _)) ?rest251
          case hy251 => intro W hSW; (try dsimp only at hSW); obtain ⟨e0, e1⟩ := hSW; go_simp <;> with_reducible rfl
          try simp only [Act.put, lsa, lsb, lsc]
          rw [hwd]
          clear hwd
          refine EG_end (by kernel_rfl) (by simp only [lga, lgb, lgc]; rfl) ?_
          intro K hK0
          have hK := hid hK0
          clear hK0
          go_simp
          refine hK.out _ _ ?_
          clear hK K
          refine NoPanic.normal ?_
          go_wp2_with fail
          have sF : Shy (fun k => k = gr) wd (((((((wd.setCell ⟨gr, 0, none⟩ (.int .i64 3)).setCell ⟨gr, 1, none⟩ (.string ⟨#[]⟩)).setCell ⟨gr, 2, none⟩ (.int .i64 0)).setCell ⟨gr, 3, none⟩ (.int .i64 0)).setCell ⟨gr, 4, none⟩ (.int .i64 0)).setCell ⟨gr, 5, none⟩ (.slice none 0 0)).setCell ⟨gr, 6, none⟩ (.int .i64 lf)) := ((((((((Shy.refl wd (U := fun k => k = gr)).set (b := gr) (fun _ => rfl) 0 (.int .i64 3)).set (b := gr) (fun _ => rfl) 1 (.string ⟨#[]⟩)).set (b := gr) (fun _ => rfl) 2 (.int .i64 0)).set (b := gr) (fun _ => rfl) 3 (.int .i64 0)).set (b := gr) (fun _ => rfl) 4 (.int .i64 0)).set (b := gr) (fun _ => rfl) 5 (.slice none 0 0)).set (b := gr) (fun _ => rfl) 6 (.int .i64 lf))
          have bF := (((((((BRX.out.set_ 0 (.int .i64 3)).set_ 1 (.string ⟨#[]⟩)).set_ 2 (.int .i64 0)).set_ 3 (.int .i64 0)).set_ 4 (.int .i64 0)).set_ 5 (.slice none 0 0)).set_ 6 (.int .i64 lf))
          obtain ⟨wF, hwF⟩ : ∃ wF, (((((((wd.setCell ⟨gr, 0, none⟩ (.int .i64 3)).setCell ⟨gr, 1, none⟩ (.string ⟨#[]⟩)).setCell ⟨gr, 2, none⟩ (.int .i64 0)).setCell ⟨gr, 3, none⟩ (.int .i64 0)).setCell ⟨gr, 4, none⟩ (.int .i64 0)).setCell ⟨gr, 5, none⟩ (.slice none 0 0)).setCell ⟨gr, 6, none⟩ (.int .i64 lf)) = wF := ⟨_, rfl⟩
          rw [hwF] at sF bF ⊢
          clear hwF rf rc0 rc1 rc2 rc3 rc4 rc5 rc6
          have f0 := bF.cell 0
          have f1 := bF.cell 1
          have f2 := bF.cell 2
          have f3 := bF.cell 3
          have f4 := bF.cell 4
          have f5 := bF.cell 5
          have f6 := bF.cell 6
          simp at f0 f1 f2 f3 f4 f5 f6
          refine bodyPost_ret (by simp [results, Try.results23, go_sem, f0, f1, f2, f3, f4, f5, f6]; rfl) rfl ?_
          have fin := get_fin HH.out HVV.out HGR.out HX.out SX.out sF (.inr L8.out) (backT_mem HI.out)
          rw [HP.out]
          exact ⟨none, 0, by rw [HTL.out, ← HLF.out]; rfl, OwnG.nil _ _ _ _ _, fin.1, fin.2⟩
    · obtain ⟨i, hi, hsi, htk0⟩ : ∃ i, i < T.length ∧ o1 = some i ∧ takeR (T.getD i tr0) tm rank = true := by
        have h := HTK.out
        unfold takeB at h
        rcases IXC.out with ⟨h1, _⟩ | ⟨i, hi, h1, _⟩
        · rw [h1] at h; simp at h
        · rw [h1] at h
          exact ⟨i, hi, HO1.out.symm.trans h1, h⟩
      have hp := HG1.out i (HO1.out.trans hsi) htk0
      clear htk0
      have hv : v1 = (i : Int) := by rw [← HV1.out, hsi]; rfl
      clear HV1 HO1
      subst hsi hv
      have HEN := HENT.out (T.getD i tr0) (getT_mem hi)
      obtain ⟨r, hr⟩ : ∃ r, T.getD i tr0 = r := ⟨_, rfl⟩
      have hrm : r ∈ backT T i := by unfold backT; rw [hr]; simp
      have RU : Calls Try.prog 53 #[pt g, .int .i64 i] w5 fun e w' => UsedD w5 w' g most tm (backT T i) r e := by
        have := rused H5.out hi NUM.out.2
        rw [hr] at this
        unfold backT
        rw [hr]
        exact this
      rw [hr] at hp HEN
      have HP := hid hp
      have HENR := hid HEN
      have HRM := hid hrm
      have HI := hid hi
      obtain ⟨rn, rk0, tl, ib, sn, sty, scl, sttl, rA, sl, rc, rrk, hcs, htl, hib, hrk, hsn, hsty, hscl, hrA, hsl, hrc⟩ := cells10 r
      have HNAMES := hid (And.intro hsn (And.intro hsty (And.intro hscl (And.intro hrA (And.intro hsl hrc)))))
      have HTL := hid htl
      have HIB := hid hib
      have htb := HEN.2.1
      rw [htl] at htb
      have HTB := hid htb
      simp only [pt] at RU
      clear hp HEN hrm hr htl hib hrk hsn hsty hscl hrA hsl hrc htb
      go_wp2_with fail
      refine RU.mono ?_
      rintro e w8 ⟨A8, c8, rfl, H8, S8, L8⟩
      rw [hcs]
      have H8 := hid H8
      have BR8 := hid (BR5.out.shy S8 (fun e => by have h1 := HH.out.b.lt; have h2 := HGR.out; omega))
      have L8 := hid (fun k hk => Nat.lt_of_lt_of_le BR5.out.lt (L8 k hk))
      have S8 := hid (S5.out.trans S8 (fun k _ e => e))
      have xx := ext_alloc w8 (.cells #[.string rn, .int .i64 rk0, .int .i64 tl, .bool ib, .string sn, .int .i64 sty, .int .i64 scl, .int .i64 sttl, .slice rA sl rc, .int .i64 rrk] 100)
      have bx := Blk.new w8 100 #[.string rn, .int .i64 rk0, .int .i64 tl, .bool ib, .string sn, .int .i64 sty, .int .i64 scl, .int .i64 sttl, .slice rA sl rc, .int .i64 rrk]
      obtain ⟨wx, hwx⟩ : ∃ wx, w8.alloc (.cells #[.string rn, .int .i64 rk0, .int .i64 tl, .bool ib, .string sn, .int .i64 sty, .int .i64 scl, .int .i64 sttl, .slice rA sl rc, .int .i64 rrk] 100) = wx := ⟨_, rfl⟩
      obtain ⟨gx, hgx⟩ : ∃ gx, w8.heap.size = gx := ⟨_, rfl⟩
      rw [hwx] at xx bx
      rw [hgx] at bx
      have XX := hid xx
      have BX := hid bx
      have HCS := hid hcs
      clear xx bx hcs RU
      go_upto_region 7 with (fail)
      have HGX := hid hgx
      clear hwx hgx
      have HX := hid (H8.out.ext (ext_trans XX.out (ext_drew _)))
      have SX := hid (S8.out.ext (ext_trans XX.out (ext_drew _)))
      have BRX := hid (BR8.out.ext (ext_trans XX.out (ext_drew _)))
      have BXX := hid (BX.out.ext (ext_drew _))
      obtain ⟨wd, hwd⟩ : ∃ wd, wx.drew = wd := ⟨_, rfl⟩
      rw [hwd] at HX SX BRX BXX
      obtain ⟨lf, hlf⟩ : ∃ lf, lf = tl - tm := ⟨_, rfl⟩
      have HLF := hid hlf
      have z1 : wrap64 (tl - tm) = lf := by rw [hlf]; exact IntWalk.wrap64_in _ (by have h1 := NUM.out.1; have h2 := HTB.out; omega)
      have z2 : IntKind.i64.wrap (tl - tm) = lf := by rw [hlf]; exact IntWalk.i64_in _ (by have h1 := NUM.out.1; have h2 := HTB.out; omega)
      clear hlf
      have KEEP : Hid (∀ W, Ext wx W → W.cell? ⟨gx, 2, none⟩ = some (.int .i64 tl) ∧ W.cell? ⟨g, 2, none⟩ = some (.int .i64 tm)) := hid (fun W y => ⟨(BX.out.ext y).cell 2, ((H8.out.ext XX.out).b.ext y).cell 2⟩)
      refine wp_region_noPanic ?_
      refine region_E (S := fun W => W.cell? ⟨gx, 2, none⟩ = some (.int .i64 tl) ∧ W.cell? ⟨g, 2, none⟩ = some (.int .i64 tm)) 7 (by kernel_rfl) (by kernel_rfl) (by kernel_rfl) ?_
      refine EG_take 0 (v := ?v252) (by simp only [lga, lgb, lgc]; rfl) (by kernel_rfl) (by kernel_rfl) (by decide) (fun _ _ _ h => h) (Or.inl ⟨by rfl, ?hy252⟩) (KEEP.out _ (ext_drew _)) ?rest252
      case hy252 => intro W hSW; (try dsimp only at hSW); obtain ⟨e0, e1⟩ := hSW; go_simp <;> with_reducible rfl
      try simp only [Act.put, lsa, lsb, lsc]
      refine EG_take 1 (v := ?v253) (by simp only [lga, lgb, lgc]; rfl) (by kernel_rfl) (by kernel_rfl) (by decide) (fun _ _ _ h => h) (Or.inl ⟨by rfl, ?hy253⟩) (KEEP.out _ (ext_drew _)) ?rest253
      case hy253 => intro W hSW; (try dsimp only at hSW); obtain ⟨e0, e1⟩ := hSW; go_simp <;> with_reducible rfl
      try simp only [Act.put, lsa, lsb, lsc]
      refine EG_take 2 (v := ?v254) (by simp only [lga, lgb, lgc]; rfl) (by kernel_rfl) (by kernel_rfl) (by decide) (fun _ _ _ h => h) (Or.inl ⟨by rfl, ?hy254⟩) (KEEP.out _ (ext_drew _)) ?rest254
      case hy254 => intro W hSW; (try dsimp only at hSW); obtain ⟨e0, e1⟩ := hSW; go_simp <;> with_reducible rfl
      try simp only [Act.put, lsa, lsb, lsc]
      refine EG_take 3 (v := ?v255) (by simp only [lga, lgb, lgc]; rfl) (by kernel_rfl) (by kernel_rfl) (by decide) (fun _ _ _ h => h) (Or.inl ⟨by rfl, ?hy255⟩) (KEEP.out _ (ext_drew _)) ?rest255
      case hy255 => intro W hSW; (try dsimp only at hSW); obtain ⟨e0, e1⟩ := hSW; go_simp <;> with_reducible rfl
      try simp only [Act.put, lsa, lsb, lsc]
      refine EG_take 4 (v := ?v256) (by simp only [lga, lgb, lgc]; rfl) (by kernel_rfl) (by kernel_rfl) (by decide) (fun _ _ _ h => h) (Or.inl ⟨by rfl, ?hy256⟩) (KEEP.out _ (ext_drew _)) ?rest256
      case hy256 => intro W hSW; (try dsimp only at hSW); obtain ⟨e0, e1⟩ := hSW; go_simp <;> with_reducible rfl
      try simp only [Act.put, lsa, lsb, lsc]
      refine EG_take 5 (v := ?v257) (by simp only [lga, lgb, lgc]; rfl) (by kernel_rfl) (by kernel_rfl) (by decide) (fun _ _ _ h => h) (Or.inl ⟨by rfl, ?hy257⟩) (KEEP.out _ (ext_drew _)) ?rest257
      case hy257 => intro W hSW; (try dsimp only at hSW); obtain ⟨e0, e1⟩ := hSW; go_simp <;> with_reducible rfl
      try simp only [Act.put, lsa, lsb, lsc]
      refine EG_take 6 (v := ?v258) (by simp only [lga, lgb, lgc]; rfl) (by kernel_rfl) (by kernel_rfl) (by decide) (fun _ _ _ h => h) (Or.inl ⟨by rfl, ?hy258⟩) (KEEP.out _ (ext_drew _)) ?rest258
      case hy258 => intro W hSW; (try dsimp only at hSW); obtain ⟨e0, e1⟩ := hSW; go_simp <;> with_reducible rfl
      try simp only [Act.put, lsa, lsb, lsc]
      rw [hwd]
      clear hwd
      refine EG_end (by kernel_rfl) (by simp only [lga, lgb, lgc]; rfl) ?_
      intro K hK0
      have hK := hid hK0
      clear hK0
      go_simp
      refine hK.out _ _ ?_
      clear hK K
      refine NoPanic.normal ?_
      clear z1 z2
      have y3 : wd.cell? ⟨gx, 3, none⟩ = some (.bool ib) := BXX.out.cell 3
      cases ib
      · have HF := hid (HP.out.trans (by rw [found_none HIB.out] : _ = ((⟨tm, (backT T i).map (·.e)⟩ : StC), (⟨if kind = 0 then 3 else 2, zeroS, r.e.x.till - tm⟩ : FoundS))))
        have rc0 := BRX.out.cell 0
        have rc1 := BRX.out.cell 1
        have rc2 := BRX.out.cell 2
        have rc3 := BRX.out.cell 3
        have rc4 := BRX.out.cell 4
        have rc5 := BRX.out.cell 5
        have rc6 := BRX.out.cell 6
        simp at rc0 rc1 rc2 rc3 rc4 rc5 rc6
        have rf := BRX.out.frozen
        by_cases hk0 : kind = 0
        · have HK := hid hk0
          have k1 : (kind == 0) = true := by simpa using hk0
          have k2 : (kind != 0) = false := by simp [hk0]
          clear hk0
          go_wp2_with fail
          have sF : Shy (fun k => k = gr) wd (((((((wd.setCell ⟨gr, 0, none⟩ (.int .i64 3)).setCell ⟨gr, 1, none⟩ (.string ⟨#[]⟩)).setCell ⟨gr, 2, none⟩ (.int .i64 0)).setCell ⟨gr, 3, none⟩ (.int .i64 0)).setCell ⟨gr, 4, none⟩ (.int .i64 0)).setCell ⟨gr, 5, none⟩ (.slice none 0 0)).setCell ⟨gr, 6, none⟩ (.int .i64 lf)) := ((((((((Shy.refl wd (U := fun k => k = gr)).set (b := gr) (fun _ => rfl) 0 (.int .i64 3)).set (b := gr) (fun _ => rfl) 1 (.string ⟨#[]⟩)).set (b := gr) (fun _ => rfl) 2 (.int .i64 0)).set (b := gr) (fun _ => rfl) 3 (.int .i64 0)).set (b := gr) (fun _ => rfl) 4 (.int .i64 0)).set (b := gr) (fun _ => rfl) 5 (.slice none 0 0)).set (b := gr) (fun _ => rfl) 6 (.int .i64 lf))
          have bF := (((((((BRX.out.set_ 0 (.int .i64 3)).set_ 1 (.string ⟨#[]⟩)).set_ 2 (.int .i64 0)).set_ 3 (.int .i64 0)).set_ 4 (.int .i64 0)).set_ 5 (.slice none 0 0)).set_ 6 (.int .i64 lf))
          obtain ⟨wF, hwF⟩ : ∃ wF, (((((((wd.setCell ⟨gr, 0, none⟩ (.int .i64 3)).setCell ⟨gr, 1, none⟩ (.string ⟨#[]⟩)).setCell ⟨gr, 2, none⟩ (.int .i64 0)).setCell ⟨gr, 3, none⟩ (.int .i64 0)).setCell ⟨gr, 4, none⟩ (.int .i64 0)).setCell ⟨gr, 5, none⟩ (.slice none 0 0)).setCell ⟨gr, 6, none⟩ (.int .i64 lf)) = wF := ⟨_, rfl⟩
          rw [hwF] at sF bF ⊢
          clear hwF rf rc0 rc1 rc2 rc3 rc4 rc5 rc6
          have f0 := bF.cell 0
          have f1 := bF.cell 1
          have f2 := bF.cell 2
          have f3 := bF.cell 3
          have f4 := bF.cell 4
          have f5 := bF.cell 5
          have f6 := bF.cell 6
          simp at f0 f1 f2 f3 f4 f5 f6
          refine bodyPost_ret (by simp [results, Try.results23, go_sem, f0, f1, f2, f3, f4, f5, f6]; rfl) rfl ?_
          have fin := get_fin HH.out HVV.out HGR.out HX.out SX.out sF (.inr L8.out) (backT_mem HI.out)
          rw [HF.out, if_pos HK.out]
          exact ⟨none, 0, by rw [HTL.out, ← HLF.out]; rfl, OwnG.nil _ _ _ _ _, fin.1, fin.2⟩
        · have HK := hid hk0
          have k1 : (kind == 0) = false := by simpa using hk0
          have k2 : (kind != 0) = true := by simp [hk0]
          clear hk0
          go_wp2_with fail
          have sF : Shy (fun k => k = gr) wd (((((((wd.setCell ⟨gr, 0, none⟩ (.int .i64 2)).setCell ⟨gr, 1, none⟩ (.string ⟨#[]⟩)).setCell ⟨gr, 2, none⟩ (.int .i64 0)).setCell ⟨gr, 3, none⟩ (.int .i64 0)).setCell ⟨gr, 4, none⟩ (.int .i64 0)).setCell ⟨gr, 5, none⟩ (.slice none 0 0)).setCell ⟨gr, 6, none⟩ (.int .i64 lf)) := ((((((((Shy.refl wd (U := fun k => k = gr)).set (b := gr) (fun _ => rfl) 0 (.int .i64 2)).set (b := gr) (fun _ => rfl) 1 (.string ⟨#[]⟩)).set (b := gr) (fun _ => rfl) 2 (.int .i64 0)).set (b := gr) (fun _ => rfl) 3 (.int .i64 0)).set (b := gr) (fun _ => rfl) 4 (.int .i64 0)).set (b := gr) (fun _ => rfl) 5 (.slice none 0 0)).set (b := gr) (fun _ => rfl) 6 (.int .i64 lf))
          have bF := (((((((BRX.out.set_ 0 (.int .i64 2)).set_ 1 (.string ⟨#[]⟩)).set_ 2 (.int .i64 0)).set_ 3 (.int .i64 0)).set_ 4 (.int .i64 0)).set_ 5 (.slice none 0 0)).set_ 6 (.int .i64 lf))
          obtain ⟨wF, hwF⟩ : ∃ wF, (((((((wd.setCell ⟨gr, 0, none⟩ (.int .i64 2)).setCell ⟨gr, 1, none⟩ (.string ⟨#[]⟩)).setCell ⟨gr, 2, none⟩ (.int .i64 0)).setCell ⟨gr, 3, none⟩ (.int .i64 0)).setCell ⟨gr, 4, none⟩ (.int .i64 0)).setCell ⟨gr, 5, none⟩ (.slice none 0 0)).setCell ⟨gr, 6, none⟩ (.int .i64 lf)) = wF := ⟨_, rfl⟩
          rw [hwF] at sF bF ⊢
          clear hwF rf rc0 rc1 rc2 rc3 rc4 rc5 rc6
          have f0 := bF.cell 0
          have f1 := bF.cell 1
          have f2 := bF.cell 2
          have f3 := bF.cell 3
          have f4 := bF.cell 4
          have f5 := bF.cell 5
          have f6 := bF.cell 6
          simp at f0 f1 f2 f3 f4 f5 f6
          refine bodyPost_ret (by simp [results, Try.results23, go_sem, f0, f1, f2, f3, f4, f5, f6]; rfl) rfl ?_
          have fin := get_fin HH.out HVV.out HGR.out HX.out SX.out sF (.inr L8.out) (backT_mem HI.out)
          rw [HF.out, if_neg HK.out]
          exact ⟨none, 0, by rw [HTL.out, ← HLF.out]; rfl, OwnG.nil _ _ _ _ _, fin.1, fin.2⟩
      · have HF := hid (HP.out.trans (by rw [found_known HIB.out] : _ = ((⟨tm, (backT T i).map (·.e)⟩ : StC), (⟨1, ⟨(setOf r.e.x).nm, (setOf r.e.x).ty, (setOf r.e.x).cl, r.e.x.till - tm, (setOf r.e.x).data⟩, r.e.x.till - tm⟩ : FoundS))))
        have y4 : wd.cell? ⟨gx, 4, none⟩ = some (.string sn) := BXX.out.cell 4
        have y5 : wd.cell? ⟨gx, 5, none⟩ = some (.int .i64 sty) := BXX.out.cell 5
        have y6 : wd.cell? ⟨gx, 6, none⟩ = some (.int .i64 scl) := BXX.out.cell 6
        have y7 : wd.cell? ⟨gx, 7, none⟩ = some (.int .i64 sttl) := BXX.out.cell 7
        have y8 : wd.cell? ⟨gx, 8, none⟩ = some (.slice rA sl rc) := BXX.out.cell 8
        have xs := ext_alloc wd (.cells #[.string sn, .int .i64 sty, .int .i64 scl, .int .i64 sttl, .slice rA sl rc] 30)
        have bs := Blk.new wd 30 #[.string sn, .int .i64 sty, .int .i64 scl, .int .i64 sttl, .slice rA sl rc]
        obtain ⟨ws, hws⟩ : ∃ ws, wd.alloc (.cells #[.string sn, .int .i64 sty, .int .i64 scl, .int .i64 sttl, .slice rA sl rc] 30) = ws := ⟨_, rfl⟩
        obtain ⟨gs, hgs⟩ : ∃ gs, wd.heap.size = gs := ⟨_, rfl⟩
        rw [hws] at xs bs
        rw [hgs] at bs
        have s3 : Shy (fun _ => False) wd (ws.setCell ⟨gs, 3, none⟩ (.int .i64 lf)) := (Shy.of_ext xs).set (b := gs) (fun h => by omega) 3 _
        have bt : Blk (ws.setCell ⟨gs, 3, none⟩ (.int .i64 lf)) gs 30 #[.string sn, .int .i64 sty, .int .i64 scl, .int .i64 lf, .slice rA sl rc] := by
          have := bs.set_ 3 (.int .i64 lf)
          simpa using this
        have bs3 := bs.cell 3
        simp at bs3
        have bsf := bs.frozen
        obtain ⟨wt, hwt⟩ : ∃ wt, ws.setCell ⟨gs, 3, none⟩ (.int .i64 lf) = wt := ⟨_, rfl⟩
        rw [hwt] at s3 bt
        obtain ⟨wq, hwq⟩ : ∃ wq, wt.alloc (.cells #[] 9) = wq := ⟨_, rfl⟩
        obtain ⟨gq, hgq⟩ : ∃ gq, wt.heap.size = gq := ⟨_, rfl⟩
        have xq : Ext wt wq := by rw [← hwq]; exact ext_alloc _ _
        obtain ⟨i0, hi0, hz0, hz1, hz2⟩ := info_parts info_t
        have dst : OwnG isT wq wt.heap.size 9 1 (some ⟨gq, 0, none⟩) 0 0 [] := by
          have := OwnG.new (ok := isT) (base := wt.heap.size) (size := 1) (e := 9) wt [] 0 0 (Nat.le_refl _) (by simp) (Nat.le_refl _) (by simp [maxLen]) (by simp)
          rw [← hwq, ← hgq]
          simpa using this
        have hdat : RdG wd 1 rA sl rc (tvs (setOf r.e.x).data) := by
          have h1 := HX.out.d r HRM.out
          rw [HNAMES.out.2.2.2.1, HNAMES.out.2.2.2.2.1, HNAMES.out.2.2.2.2.2]
          exact h1
        have src : RdG wq 1 rA sl rc (tvs (setOf r.e.x).data) := (rdG_off hdat s3 (fun _ _ _ h => h)).ext xq
        have hsl9 : sl ≤ 64 := by rw [HNAMES.out.2.2.2.2.1]; exact ent_data HENR.out HIB.out
        have q4 : wq.cell? ⟨gs, 4, none⟩ = some (.slice rA sl rc) := (bt.ext xq).cell 4
        have DST := hid dst
        have SRC := hid src
        have XQ := hid xq
        have BT := hid bt
        have S3 := hid s3
        clear dst src xq xs bs bt s3 hdat
        go_upto_region 12 with (at_builtin; go_must (refine wpList_append_g (ok := isT) rfl (.tmp 95) (.tmp 97) 28 rfl wt.heap.size 9 i0 (.string ⟨#[]⟩) 1 16 Try.underlying28 hi0 hz0 hz1 hz2 rfl (by decide) (by simp [Value.cells]; exact ⟨⟨#[]⟩, rfl⟩) (fun _ h => h.one) rfl DST.out rfl SRC.out (isT_tvs (setOf r.e.x).data) (by omega) (by unfold maxLen; omega) XQ.out.size ?_; intro A9 c9 w9 o9 g9 n9; rw [show 0 + sl = sl from by omega, List.nil_append] at o9; rw [show 0 + sl = sl from by omega]; have O9 := hid o9; have X9 : Hid (Ext wt w9) := hid (below_of_grown XQ.out XQ.out.size g9 (fun q hq => (DST.out.lt q hq).1)); have bf := (BT.out.ext X9.out).frozen; have b4 := (BT.out.ext X9.out).cell 4; simp at b4; clear o9 g9 n9 q4 hwq hgq))
        clear bf b4 bs3 bsf y3 y4 y5 y6 y7 y8 hws hwt
        have s11 : Shy (fun _ => False) wd (w9.setCell ⟨gs, 4, none⟩ (.slice A9 sl c9)) := (S3.out.ext X9.out).set (b := gs) (fun h => by omega) 4 _
        have s9 := set_shy gs 4 (.slice A9 sl c9) w9
        have b11 : Blk (w9.setCell ⟨gs, 4, none⟩ (.slice A9 sl c9)) gs 30 #[.string sn, .int .i64 sty, .int .i64 scl, .int .i64 lf, .slice A9 sl c9] := by
          have := (BT.out.ext X9.out).set_ 4 (.slice A9 sl c9)
          simpa using this
        have hl9 : ∀ k, blk A9 = some k → ¬ k = gs := fun k hk e => by have h1 := (O9.out.lt k hk).1; have h2 := BT.out.lt; omega
        have o11 := s9.ownG O9.out hl9
        obtain ⟨w11, hw11⟩ : ∃ w11, w9.setCell ⟨gs, 4, none⟩ (.slice A9 sl c9) = w11 := ⟨_, rfl⟩
        rw [hw11] at s11 b11 o11 ⊢
        have H11 := hid (HX.out.off s11 (fun h => h) (fun _ _ _ h => h) (fun _ _ _ _ _ h => h))
        have S11 := hid (SX.out.trans s11 (fun _ _ h => h.elim))
        have BR11 := hid (BRX.out.shy s11 (fun h => h))
        have u0 : w11.cell? ⟨gs, 0, none⟩ = some (.string sn) := b11.cell 0
        have u1 : w11.cell? ⟨gs, 1, none⟩ = some (.int .i64 sty) := b11.cell 1
        have u2 : w11.cell? ⟨gs, 2, none⟩ = some (.int .i64 scl) := b11.cell 2
        have u3 : w11.cell? ⟨gs, 3, none⟩ = some (.int .i64 lf) := b11.cell 3
        have u4 : w11.cell? ⟨gs, 4, none⟩ = some (.slice A9 sl c9) := b11.cell 4
        have O11 := hid o11
        have HGS2 := hid hgs
        clear s11 b11 o11 s9 hw11 hl9 hgs
        have rc0 := BR11.out.cell 0
        have rc1 := BR11.out.cell 1
        have rc2 := BR11.out.cell 2
        have rc3 := BR11.out.cell 3
        have rc4 := BR11.out.cell 4
        have rc5 := BR11.out.cell 5
        have rc6 := BR11.out.cell 6
        simp at rc0 rc1 rc2 rc3 rc4 rc5 rc6
        have rf := BR11.out.frozen
        go_wp2_with fail
        have sF : Shy (fun k => k = gr) w11 (((((((w11.setCell ⟨gr, 0, none⟩ (.int .i64 1)).setCell ⟨gr, 1, none⟩ (.string sn)).setCell ⟨gr, 2, none⟩ (.int .i64 sty)).setCell ⟨gr, 3, none⟩ (.int .i64 scl)).setCell ⟨gr, 4, none⟩ (.int .i64 lf)).setCell ⟨gr, 5, none⟩ (.slice A9 sl c9)).setCell ⟨gr, 6, none⟩ (.int .i64 lf)) := ((((((((Shy.refl w11 (U := fun k => k = gr)).set (b := gr) (fun _ => rfl) 0 (.int .i64 1)).set (b := gr) (fun _ => rfl) 1 (.string sn)).set (b := gr) (fun _ => rfl) 2 (.int .i64 sty)).set (b := gr) (fun _ => rfl) 3 (.int .i64 scl)).set (b := gr) (fun _ => rfl) 4 (.int .i64 lf)).set (b := gr) (fun _ => rfl) 5 (.slice A9 sl c9)).set (b := gr) (fun _ => rfl) 6 (.int .i64 lf))
        have bF := (((((((BR11.out.set_ 0 (.int .i64 1)).set_ 1 (.string sn)).set_ 2 (.int .i64 sty)).set_ 3 (.int .i64 scl)).set_ 4 (.int .i64 lf)).set_ 5 (.slice A9 sl c9)).set_ 6 (.int .i64 lf))
        obtain ⟨wF, hwF⟩ : ∃ wF, (((((((w11.setCell ⟨gr, 0, none⟩ (.int .i64 1)).setCell ⟨gr, 1, none⟩ (.string sn)).setCell ⟨gr, 2, none⟩ (.int .i64 sty)).setCell ⟨gr, 3, none⟩ (.int .i64 scl)).setCell ⟨gr, 4, none⟩ (.int .i64 lf)).setCell ⟨gr, 5, none⟩ (.slice A9 sl c9)).setCell ⟨gr, 6, none⟩ (.int .i64 lf)) = wF := ⟨_, rfl⟩
        rw [hwF] at sF bF ⊢
        clear hwF rf rc0 rc1 rc2 rc3 rc4 rc5 rc6
        have f0 := bF.cell 0
        have f1 := bF.cell 1
        have f2 := bF.cell 2
        have f3 := bF.cell 3
        have f4 := bF.cell 4
        have f5 := bF.cell 5
        have f6 := bF.cell 6
        simp at f0 f1 f2 f3 f4 f5 f6
        refine bodyPost_ret (by simp [results, Try.results23, go_sem, f0, f1, f2, f3, f4, f5, f6]; rfl) rfl ?_
        have fin := get_fin HH.out HVV.out HGR.out H11.out S11.out sF (.inr L8.out) (backT_mem HI.out)
        rw [HF.out]
        have O12 := sF.ownG O11.out (fun k hk e => by
          have h1 := (O11.out.lt k hk).1
          have h2 := BT.out.lt
          have h3 := BRX.out.lt
          have h4 := HGS2.out
          omega)
        refine ⟨A9, c9, ?_, ?_, fin.1, fin.2⟩
        · rw [HTL.out, ← HLF.out, HNAMES.out.1, HNAMES.out.2.1, HNAMES.out.2.2.1, HNAMES.out.2.2.2.2.1]
          rfl
        · have h1 := O12.mono (Nat.le_trans SX.out.size S3.out.size)
          rw [HNAMES.out.2.2.2.2.1] at h1
          exact h1
end
end Go.Proofs.Ytcddfenhkljpeaa

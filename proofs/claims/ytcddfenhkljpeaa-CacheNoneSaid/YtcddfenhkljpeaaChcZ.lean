/- Layer 23: CacheNone. (Printed by gen_chcz.py.) -/
import Derived.Test.YtcddfenhkljpeaaChcY
import Derived.Test.YtcddfenhkljpeaaChcO
import Derived.Test.YtcddfenhkljpeaaKitE
namespace Go.Proofs.Ytcddfenhkljpeaa
open Go.BK Go.BK.CH Go.BK.NM Go.RowKit Go.Maps
set_option linter.unusedVariables false
set_option linter.unusedSimpArgs false
def NnRel (w0 : World) (i : Value) (wr : World) : Prop := ∃ k : Nat, k ≤ 2 ∧ i = .int .i64 k ∧ Ext w0 wr
theorem putset_abs' {w : World} {v : Value} (h : AbsV w v) (s : SetS) (A : Option Addr) (d : Nat) (rank at_ : Int) (sn : ByteArray) (n : Nat) (hn : str s.nm = sn) (hl : s.data.length = n) :
    Calls Try.prog 14 #[v, .agg #[.string sn, .int .i64 s.ty, .int .i64 s.cl, .int .i64 s.ttl, .slice A n d], .int .i64 rank, .int .i64 at_] w fun e w' => e = .returned (.tuple #[.bool false, .int .i64 1]) ∧ Ext w w' := by
  subst hn; subst hl
  exact putset_abs h s A d rank at_
theorem same_zero (w : World) : Calls Try.prog 24 #[.agg #[.int .i64 0, .string ⟨#[]⟩, .int .i64 0, .int .i64 0, .int .i64 0, .slice none 0 0, .int .i64 0], .agg #[.int .i64 0, .string ⟨#[]⟩, .int .i64 0, .int .i64 0, .int .i64 0, .slice none 0 0, .int .i64 0]] w fun e w' => e = .returned (.bool true) ∧ Ext w w' :=
  same_found (s := ⟨[], 0, 0, 0, []⟩) (k := 0) (l := 0) (RdG.none_ w 1) (RdG.none_ w 1) (by decide)
set_option maxHeartbeats 8000000 in
set_option maxRecDepth 100000 in
theorem none_walk (m : Am) (w : World) (hwf : WfA m.a) (hrt : RdT w m.A m.d m.a.s.data) :
    Calls Try.prog 8 #[.agg (cellsA m).toArray] w fun e w' => e = .returned (.bool true) ∧ Ext w w' := by
  obtain ⟨nm, hnm⟩ : ∃ nm, str m.a.nm = nm := ⟨_, rfl⟩
  obtain ⟨sn, hsn⟩ : ∃ sn, str m.a.s.nm = sn := ⟨_, rfl⟩
  obtain ⟨n, hn⟩ : ∃ n, m.a.s.data.length = n := ⟨_, rfl⟩
  have hcs : (cellsA m).toArray = #[.int .i64 m.a.kind, .int .i64 m.a.now, .int .i64 m.a.rank, .int .i64 m.a.type, .int .i64 m.a.ttl, .string nm, .string sn, .int .i64 m.a.s.ty, .int .i64 m.a.s.cl, .int .i64 m.a.s.ttl, .slice m.A n m.d] := by unfold cellsA; rw [hnm, hsn, hn]
  rw [hcs]
  have xx := ext_alloc w (.cells #[.int .i64 m.a.kind, .int .i64 m.a.now, .int .i64 m.a.rank, .int .i64 m.a.type, .int .i64 m.a.ttl, .string nm, .string sn, .int .i64 m.a.s.ty, .int .i64 m.a.s.cl, .int .i64 m.a.s.ttl, .slice m.A n m.d] 52)
  have bx := Blk.new w 52 #[.int .i64 m.a.kind, .int .i64 m.a.now, .int .i64 m.a.rank, .int .i64 m.a.type, .int .i64 m.a.ttl, .string nm, .string sn, .int .i64 m.a.s.ty, .int .i64 m.a.s.cl, .int .i64 m.a.s.ttl, .slice m.A n m.d]
  obtain ⟨wx, hwx⟩ : ∃ wx, w.alloc (.cells #[.int .i64 m.a.kind, .int .i64 m.a.now, .int .i64 m.a.rank, .int .i64 m.a.type, .int .i64 m.a.ttl, .string nm, .string sn, .int .i64 m.a.s.ty, .int .i64 m.a.s.cl, .int .i64 m.a.s.ttl, .slice m.A n m.d] 52) = wx := ⟨_, rfl⟩
  obtain ⟨gx, hgx⟩ : ∃ gx, w.heap.size = gx := ⟨_, rfl⟩
  rw [hwx] at xx bx
  rw [hgx] at bx
  have xy := ext_alloc wx (.cells #[.int .i64 m.a.kind, .int .i64 m.a.now, .int .i64 m.a.rank, .int .i64 m.a.type, .int .i64 m.a.ttl, .string nm, .string sn, .int .i64 m.a.s.ty, .int .i64 m.a.s.cl, .int .i64 m.a.s.ttl, .slice m.A n m.d] 52)
  have by_ := Blk.new wx 52 #[.int .i64 m.a.kind, .int .i64 m.a.now, .int .i64 m.a.rank, .int .i64 m.a.type, .int .i64 m.a.ttl, .string nm, .string sn, .int .i64 m.a.s.ty, .int .i64 m.a.s.cl, .int .i64 m.a.s.ttl, .slice m.A n m.d]
  have bx := bx.ext xy
  obtain ⟨wy, hwy⟩ : ∃ wy, wx.alloc (.cells #[.int .i64 m.a.kind, .int .i64 m.a.now, .int .i64 m.a.rank, .int .i64 m.a.type, .int .i64 m.a.ttl, .string nm, .string sn, .int .i64 m.a.s.ty, .int .i64 m.a.s.cl, .int .i64 m.a.s.ttl, .slice m.A n m.d] 52) = wy := ⟨_, rfl⟩
  obtain ⟨gy, hgy⟩ : ∃ gy, wx.heap.size = gy := ⟨_, rfl⟩
  rw [hwy] at xy by_ bx
  rw [hgy] at by_
  have XY := hid (ext_trans xx xy)
  have LI := long_in (w := wy) (A := some ⟨gy, 0, none⟩) (c := 1) (M := [m]) ⟨⟨by rw [cellsM_len], Nat.le_refl _, by simp [maxLen], fun _ => ⟨gy, 0, rfl, by_.lt, fun j u hj => by
    rw [by_.cell]
    have e : cellsM [m] = cellsA m := by simp [cellsM]
    rw [e] at hj
    rw [← hcs, Nat.zero_add]
    simpa using hj⟩⟩, fun q hq => by rw [List.mem_singleton] at hq; subst hq; exact ⟨hwf, rdT_ext hrt (ext_trans xx xy)⟩⟩
  obtain ⟨lg, hlg⟩ : ∃ lg, longL [m] = lg := ⟨_, rfl⟩
  rw [hlg, show ([m] : List Am).length = 1 from rfl] at LI
  have LI := hid LI
  have BX := hid bx
  have HWX := hid hwx
  have HGX := hid hgx
  have HNM := hid hnm
  have HSN := hid hsn
  have HN := hid hn
  have l0 := (Blk.new w 52 #[.int .i64 m.a.kind, .int .i64 m.a.now, .int .i64 m.a.rank, .int .i64 m.a.type, .int .i64 m.a.ttl, .string nm, .string sn, .int .i64 m.a.s.ty, .int .i64 m.a.s.cl, .int .i64 m.a.s.ttl, .slice m.A n m.d]).cell
  rw [hwx, hgx] at l0
  have L0 := hid l0
  clear xx xy bx by_ hwx hgx hnm hsn hn hlg hcs l0 hwf hrt
  go_enter Try.func8, Try.ntmps8
  go_upto_region 1 with (fail)
  rw [HWX.out, HGX.out]
  have l0 := L0.out 0
  have l1 := L0.out 1
  have l2 := L0.out 2
  have l3 := L0.out 3
  have l4 := L0.out 4
  have l5 := L0.out 5
  have l6 := L0.out 6
  have l7 := L0.out 7
  have l8 := L0.out 8
  have l9 := L0.out 9
  have l10 := L0.out 10
  simp at l0 l1 l2 l3 l4 l5 l6 l7 l8 l9 l10
  go_wp2_with fail
  refine LI.out.mono ?_
  rintro e w1 ⟨rfl, x1⟩
  have X1 := hid (ext_trans XY.out x1)
  have B1 := hid (BX.out.ext x1)
  clear x1 LI l0 l1 l2 l3 l4 l5 l6 l7 l8 l9 l10 L0 BX hwy hgy
  cases lg with
  | true =>
    go_wp2_with fail
    refine (awake_yes _).mono ?_
    rintro e w2 ⟨rfl, x2⟩
    go_wp2_with fail
    go_ret
    exact ⟨rfl, ext_trans X1.out x2⟩
  | false =>
    have xz := ext_alloc w1 (.cells #[.int .i64 0, .int .i64 0, .pointer none, .map none] 64)
    have bz := Blk.new w1 64 #[.int .i64 0, .int .i64 0, .pointer none, .map none]
    obtain ⟨wz, hwz⟩ : ∃ wz, w1.alloc (.cells #[.int .i64 0, .int .i64 0, .pointer none, .map none] 64) = wz := ⟨_, rfl⟩
    obtain ⟨gz, hgz⟩ : ∃ gz, w1.heap.size = gz := ⟨_, rfl⟩
    rw [hwz] at xz bz
    rw [hgz] at bz
    have xp := ext_alloc wz (.cells #[.pointer none, .pointer (some ⟨gz, 0, none⟩)] 24)
    have bp := Blk.new wz 24 #[.pointer none, .pointer (some ⟨gz, 0, none⟩)]
    have bz := Blk.ext bz xp
    obtain ⟨wp, hwp⟩ : ∃ wp, wz.alloc (.cells #[.pointer none, .pointer (some ⟨gz, 0, none⟩)] 24) = wp := ⟨_, rfl⟩
    obtain ⟨pb, hpb⟩ : ∃ pb, wz.heap.size = pb := ⟨_, rfl⟩
    rw [hwp] at xp bp bz
    rw [hpb] at bp
    have XP := hid (ext_trans X1.out (ext_trans xz xp))
    have BX := hid (B1.out.ext (ext_trans xz xp))
    have BZ := hid bz
    have BP := hid bp
    have HWP := hid hwp
    have HPB := hid hpb
    clear xz xp bz bp B1 X1
    go_upto_region 5 with (fail)
    clear hwz hgz hwp hpb
    go_wp2_with fail
    go_loopw [5] (fun i wr => NnRel wp i wr) (fun i _ => 2 - (intOf i).toNat)
    case atStart => exact ⟨0, Nat.zero_le _, rfl, ext_refl _⟩
    case round =>
      obtain ⟨k, hk, rfl, hx⟩ := hrel
      by_cases hlt : k < 2
      · have i1 : (k : Int) < 2 := by omega
        have i2 : k < 2 := hlt
        obtain ⟨v, hv, hab⟩ : ∃ v, wr.cell? ⟨pb, k, none⟩ = some v ∧ AbsV wr v := by
          have hc := (BP.out.ext hx).cell k
          rcases (show k = 0 ∨ k = 1 by omega) with rfl | rfl
          · exact ⟨_, hc, absV_nil wr⟩
          · exact ⟨_, hc, absV_zero (BZ.out.ext hx)⟩
        have b := BX.out.ext hx
        have KEEP : Hid (∀ W, Ext wr W → W.cell? ⟨pb, k, none⟩ = some v ∧ W.cell? ⟨gx, 1, none⟩ = some (.int .i64 m.a.now) ∧ W.cell? ⟨gx, 2, none⟩ = some (.int .i64 m.a.rank) ∧ W.cell? ⟨gx, 3, none⟩ = some (.int .i64 m.a.type) ∧ W.cell? ⟨gx, 4, none⟩ = some (.int .i64 m.a.ttl) ∧ W.cell? ⟨gx, 5, none⟩ = some (.string nm) ∧ W.cell? ⟨gx, 6, none⟩ = some (.string sn) ∧ W.cell? ⟨gx, 7, none⟩ = some (.int .i64 m.a.s.ty) ∧ W.cell? ⟨gx, 8, none⟩ = some (.int .i64 m.a.s.cl) ∧ W.cell? ⟨gx, 9, none⟩ = some (.int .i64 m.a.s.ttl) ∧ W.cell? ⟨gx, 10, none⟩ = some (.slice m.A n m.d)) := hid (fun W x => ⟨(x.cell (p := ⟨pb, k, none⟩) (BP.out.ext hx).lt).trans hv, (b.ext x).cell 1, (b.ext x).cell 2, (b.ext x).cell 3, (b.ext x).cell 4, (b.ext x).cell 5, (b.ext x).cell 6, (b.ext x).cell 7, (b.ext x).cell 8, (b.ext x).cell 9, (b.ext x).cell 10⟩)
        have AB := hid hab
        have HX := hid hx
        clear hv hab hx b
        go_upto_region 8 with (fail)
        refine wp_region_noPanic ?_
        refine region_E (S := fun W => W.cell? ⟨pb, k, none⟩ = some v ∧ W.cell? ⟨gx, 1, none⟩ = some (.int .i64 m.a.now) ∧ W.cell? ⟨gx, 2, none⟩ = some (.int .i64 m.a.rank) ∧ W.cell? ⟨gx, 3, none⟩ = some (.int .i64 m.a.type) ∧ W.cell? ⟨gx, 4, none⟩ = some (.int .i64 m.a.ttl) ∧ W.cell? ⟨gx, 5, none⟩ = some (.string nm) ∧ W.cell? ⟨gx, 6, none⟩ = some (.string sn) ∧ W.cell? ⟨gx, 7, none⟩ = some (.int .i64 m.a.s.ty) ∧ W.cell? ⟨gx, 8, none⟩ = some (.int .i64 m.a.s.cl) ∧ W.cell? ⟨gx, 9, none⟩ = some (.int .i64 m.a.s.ttl) ∧ W.cell? ⟨gx, 10, none⟩ = some (.slice m.A n m.d)) 15 (by kernel_rfl) (by kernel_rfl) (by kernel_rfl) ?_
        refine EG_take 0 (v := ?v1) (by simp only [List.getElem?_toArray, List.getElem?_cons_succ, List.getElem?_cons_zero]; rfl) (by kernel_rfl) (by kernel_rfl) (by decide) (fun _ _ _ h => h) (Or.inl ⟨by rfl, ?hy1⟩) (KEEP.out _ (ext_drew _)) ?rest1
        case hy1 => intro W hSW; (try dsimp only at hSW); obtain ⟨e0, e1, e2, e3, e4, e5, e6, e7, e8, e9, e10⟩ := hSW; go_simp <;> with_reducible rfl
        try simp only [Act.put, List.setIfInBounds_toArray, List.set_cons_zero, List.set_cons_succ]
        refine EG_take 1 (v := ?v2) (by simp only [List.getElem?_toArray, List.getElem?_cons_succ, List.getElem?_cons_zero]; rfl) (by kernel_rfl) (by kernel_rfl) (by decide) (fun _ _ _ h => h) (Or.inl ⟨by rfl, ?hy2⟩) (KEEP.out _ (ext_drew _)) ?rest2
        case hy2 => intro W hSW; (try dsimp only at hSW); obtain ⟨e0, e1, e2, e3, e4, e5, e6, e7, e8, e9, e10⟩ := hSW; go_simp <;> with_reducible rfl
        try simp only [Act.put, List.setIfInBounds_toArray, List.set_cons_zero, List.set_cons_succ]
        refine EG_take 2 (v := ?v3) (by simp only [List.getElem?_toArray, List.getElem?_cons_succ, List.getElem?_cons_zero]; rfl) (by kernel_rfl) (by kernel_rfl) (by decide) (fun _ _ _ h => h) (Or.inl ⟨by rfl, ?hy3⟩) (KEEP.out _ (ext_drew _)) ?rest3
        case hy3 => intro W hSW; (try dsimp only at hSW); obtain ⟨e0, e1, e2, e3, e4, e5, e6, e7, e8, e9, e10⟩ := hSW; go_simp <;> with_reducible rfl
        try simp only [Act.put, List.setIfInBounds_toArray, List.set_cons_zero, List.set_cons_succ]
        refine EG_take 3 (v := ?v4) (by simp only [List.getElem?_toArray, List.getElem?_cons_succ, List.getElem?_cons_zero]; rfl) (by kernel_rfl) (by kernel_rfl) (by decide) (fun _ _ _ h => h) (Or.inl ⟨by rfl, ?hy4⟩) (KEEP.out _ (ext_drew _)) ?rest4
        case hy4 => intro W hSW; (try dsimp only at hSW); obtain ⟨e0, e1, e2, e3, e4, e5, e6, e7, e8, e9, e10⟩ := hSW; go_simp <;> with_reducible rfl
        try simp only [Act.put, List.setIfInBounds_toArray, List.set_cons_zero, List.set_cons_succ]
        refine EG_take 4 (v := ?v5) (by simp only [List.getElem?_toArray, List.getElem?_cons_succ, List.getElem?_cons_zero]; rfl) (by kernel_rfl) (by kernel_rfl) (by decide) (fun _ _ _ h => h) (Or.inl ⟨by rfl, ?hy5⟩) (KEEP.out _ (ext_drew _)) ?rest5
        case hy5 => intro W hSW; (try dsimp only at hSW); obtain ⟨e0, e1, e2, e3, e4, e5, e6, e7, e8, e9, e10⟩ := hSW; go_simp <;> with_reducible rfl
        try simp only [Act.put, List.setIfInBounds_toArray, List.set_cons_zero, List.set_cons_succ]
        refine EG_take 5 (v := ?v6) (by simp only [List.getElem?_toArray, List.getElem?_cons_succ, List.getElem?_cons_zero]; rfl) (by kernel_rfl) (by kernel_rfl) (by decide) (fun _ _ _ h => h) (Or.inl ⟨by rfl, ?hy6⟩) (KEEP.out _ (ext_drew _)) ?rest6
        case hy6 => intro W hSW; (try dsimp only at hSW); obtain ⟨e0, e1, e2, e3, e4, e5, e6, e7, e8, e9, e10⟩ := hSW; go_simp <;> with_reducible rfl
        try simp only [Act.put, List.setIfInBounds_toArray, List.set_cons_zero, List.set_cons_succ]
        refine EG_take 6 (v := ?v7) (by simp only [List.getElem?_toArray, List.getElem?_cons_succ, List.getElem?_cons_zero]; rfl) (by kernel_rfl) (by kernel_rfl) (by decide) (fun _ _ _ h => h) (Or.inl ⟨by rfl, ?hy7⟩) (KEEP.out _ (ext_drew _)) ?rest7
        case hy7 => intro W hSW; (try dsimp only at hSW); obtain ⟨e0, e1, e2, e3, e4, e5, e6, e7, e8, e9, e10⟩ := hSW; go_simp <;> with_reducible rfl
        try simp only [Act.put, List.setIfInBounds_toArray, List.set_cons_zero, List.set_cons_succ]
        refine EG_take 7 (v := ?v8) (by simp only [List.getElem?_toArray, List.getElem?_cons_succ, List.getElem?_cons_zero]; rfl) (by kernel_rfl) (by kernel_rfl) (by decide) (fun _ _ _ h => h) (Or.inl ⟨by rfl, ?hy8⟩) (KEEP.out _ (ext_drew _)) ?rest8
        case hy8 => intro W hSW; (try dsimp only at hSW); obtain ⟨e0, e1, e2, e3, e4, e5, e6, e7, e8, e9, e10⟩ := hSW; go_simp <;> with_reducible rfl
        try simp only [Act.put, List.setIfInBounds_toArray, List.set_cons_zero, List.set_cons_succ]
        refine EG_take 8 (v := ?v9) (by simp only [List.getElem?_toArray, List.getElem?_cons_succ, List.getElem?_cons_zero]; rfl) (by kernel_rfl) (by kernel_rfl) (by decide) (fun _ _ _ h => h) (Or.inl ⟨by rfl, ?hy9⟩) (KEEP.out _ (ext_drew _)) ?rest9
        case hy9 => intro W hSW; (try dsimp only at hSW); obtain ⟨e0, e1, e2, e3, e4, e5, e6, e7, e8, e9, e10⟩ := hSW; go_simp <;> with_reducible rfl
        try simp only [Act.put, List.setIfInBounds_toArray, List.set_cons_zero, List.set_cons_succ]
        refine EG_take 9 (v := ?v10) (by simp only [List.getElem?_toArray, List.getElem?_cons_succ, List.getElem?_cons_zero]; rfl) (by kernel_rfl) (by kernel_rfl) (by decide) (fun _ _ _ h => h) (Or.inl ⟨by rfl, ?hy10⟩) (KEEP.out _ (ext_drew _)) ?rest10
        case hy10 => intro W hSW; (try dsimp only at hSW); obtain ⟨e0, e1, e2, e3, e4, e5, e6, e7, e8, e9, e10⟩ := hSW; go_simp <;> with_reducible rfl
        try simp only [Act.put, List.setIfInBounds_toArray, List.set_cons_zero, List.set_cons_succ]
        refine EG_one 10 (by kernel_rfl) (by simp only [List.getElem?_toArray, List.getElem?_cons_succ, List.getElem?_cons_zero]; rfl) (by decide) ?_
        intro K hK0
        have hK := hid hK0
        clear hK0
        go_simp
        refine (putset_abs' (AB.out.ext (ext_drew _)) m.a.s m.A m.d m.a.rank m.a.now sn n HSN.out HN.out).mono ?_
        rintro e w2 ⟨rfl, x2⟩
        have X2 : Hid (Ext wr w2) := hid (ext_trans (ext_drew _) x2)
        clear x2
        go_simp
        refine hK.out _ _ (KEEP.out _ X2.out) ?_
        clear hK K
        try simp only [Act.put, List.setIfInBounds_toArray, List.set_cons_zero, List.set_cons_succ]
        refine EG_take 11 (v := ?v11) (by simp only [List.getElem?_toArray, List.getElem?_cons_succ, List.getElem?_cons_zero]; rfl) (by kernel_rfl) (by kernel_rfl) (by decide) (fun _ _ _ h => h) (Or.inl ⟨by rfl, ?hy11⟩) (KEEP.out _ X2.out) ?rest11
        case hy11 => intro W hSW; (try dsimp only at hSW); obtain ⟨e0, e1, e2, e3, e4, e5, e6, e7, e8, e9, e10⟩ := hSW; go_simp <;> with_reducible rfl
        try simp only [Act.put, List.setIfInBounds_toArray, List.set_cons_zero, List.set_cons_succ]
        refine EG_take 12 (v := ?v12) (by simp only [List.getElem?_toArray, List.getElem?_cons_succ, List.getElem?_cons_zero]; rfl) (by kernel_rfl) (by kernel_rfl) (by decide) (fun _ _ _ h => h) (Or.inl ⟨by rfl, ?hy12⟩) (KEEP.out _ X2.out) ?rest12
        case hy12 => intro W hSW; (try dsimp only at hSW); obtain ⟨e0, e1, e2, e3, e4, e5, e6, e7, e8, e9, e10⟩ := hSW; go_simp <;> with_reducible rfl
        try simp only [Act.put, List.setIfInBounds_toArray, List.set_cons_zero, List.set_cons_succ]
        refine EG_take 13 (v := ?v13) (by simp only [List.getElem?_toArray, List.getElem?_cons_succ, List.getElem?_cons_zero]; rfl) (by kernel_rfl) (by kernel_rfl) (by decide) (fun _ _ _ h => h) (Or.inl ⟨by rfl, ?hy13⟩) (KEEP.out _ X2.out) ?rest13
        case hy13 => intro W hSW; (try dsimp only at hSW); obtain ⟨e0, e1, e2, e3, e4, e5, e6, e7, e8, e9, e10⟩ := hSW; go_simp <;> with_reducible rfl
        try simp only [Act.put, List.setIfInBounds_toArray, List.set_cons_zero, List.set_cons_succ]
        refine EG_take 14 (v := ?v14) (by simp only [List.getElem?_toArray, List.getElem?_cons_succ, List.getElem?_cons_zero]; rfl) (by kernel_rfl) (by kernel_rfl) (by decide) (fun _ _ _ h => h) (Or.inl ⟨by rfl, ?hy14⟩) (KEEP.out _ X2.out) ?rest14
        case hy14 => intro W hSW; (try dsimp only at hSW); obtain ⟨e0, e1, e2, e3, e4, e5, e6, e7, e8, e9, e10⟩ := hSW; go_simp <;> with_reducible rfl
        try simp only [Act.put, List.setIfInBounds_toArray, List.set_cons_zero, List.set_cons_succ]
        refine EG_end (by kernel_rfl) (by simp only [List.getElem?_toArray, List.getElem?_cons_succ, List.getElem?_cons_zero]; rfl) ?_
        intro K hK0
        have hK := hid hK0
        clear hK0
        go_simp
        refine hK.out _ _ ?_
        clear hK K
        refine NoPanic.normal ?_
        go_upto_region 9 with (fail)
        refine wp_region_noPanic ?_
        refine region_E (S := fun W => W.cell? ⟨pb, k, none⟩ = some v ∧ W.cell? ⟨gx, 1, none⟩ = some (.int .i64 m.a.now) ∧ W.cell? ⟨gx, 2, none⟩ = some (.int .i64 m.a.rank) ∧ W.cell? ⟨gx, 3, none⟩ = some (.int .i64 m.a.type) ∧ W.cell? ⟨gx, 4, none⟩ = some (.int .i64 m.a.ttl) ∧ W.cell? ⟨gx, 5, none⟩ = some (.string nm) ∧ W.cell? ⟨gx, 6, none⟩ = some (.string sn) ∧ W.cell? ⟨gx, 7, none⟩ = some (.int .i64 m.a.s.ty) ∧ W.cell? ⟨gx, 8, none⟩ = some (.int .i64 m.a.s.cl) ∧ W.cell? ⟨gx, 9, none⟩ = some (.int .i64 m.a.s.ttl) ∧ W.cell? ⟨gx, 10, none⟩ = some (.slice m.A n m.d)) 17 (by kernel_rfl) (by kernel_rfl) (by kernel_rfl) ?_
        refine EG_take 0 (v := ?v15) (by simp only [List.getElem?_toArray, List.getElem?_cons_succ, List.getElem?_cons_zero]; rfl) (by kernel_rfl) (by kernel_rfl) (by decide) (fun _ _ _ h => h) (Or.inl ⟨by rfl, ?hy15⟩) (KEEP.out _ (ext_trans X2.out (ext_drew _))) ?rest15
        case hy15 => intro W hSW; (try dsimp only at hSW); obtain ⟨e0, e1, e2, e3, e4, e5, e6, e7, e8, e9, e10⟩ := hSW; go_simp <;> with_reducible rfl
        try simp only [Act.put, List.setIfInBounds_toArray, List.set_cons_zero, List.set_cons_succ]
        refine EG_take 1 (v := ?v16) (by simp only [List.getElem?_toArray, List.getElem?_cons_succ, List.getElem?_cons_zero]; rfl) (by kernel_rfl) (by kernel_rfl) (by decide) (fun _ _ _ h => h) (Or.inl ⟨by rfl, ?hy16⟩) (KEEP.out _ (ext_trans X2.out (ext_drew _))) ?rest16
        case hy16 => intro W hSW; (try dsimp only at hSW); obtain ⟨e0, e1, e2, e3, e4, e5, e6, e7, e8, e9, e10⟩ := hSW; go_simp <;> with_reducible rfl
        try simp only [Act.put, List.setIfInBounds_toArray, List.set_cons_zero, List.set_cons_succ]
        refine EG_take 2 (v := ?v17) (by simp only [List.getElem?_toArray, List.getElem?_cons_succ, List.getElem?_cons_zero]; rfl) (by kernel_rfl) (by kernel_rfl) (by decide) (fun _ _ _ h => h) (Or.inl ⟨by rfl, ?hy17⟩) (KEEP.out _ (ext_trans X2.out (ext_drew _))) ?rest17
        case hy17 => intro W hSW; (try dsimp only at hSW); obtain ⟨e0, e1, e2, e3, e4, e5, e6, e7, e8, e9, e10⟩ := hSW; go_simp <;> with_reducible rfl
        try simp only [Act.put, List.setIfInBounds_toArray, List.set_cons_zero, List.set_cons_succ]
        refine EG_take 3 (v := ?v18) (by simp only [List.getElem?_toArray, List.getElem?_cons_succ, List.getElem?_cons_zero]; rfl) (by kernel_rfl) (by kernel_rfl) (by decide) (fun _ _ _ h => h) (Or.inl ⟨by rfl, ?hy18⟩) (KEEP.out _ (ext_trans X2.out (ext_drew _))) ?rest18
        case hy18 => intro W hSW; (try dsimp only at hSW); obtain ⟨e0, e1, e2, e3, e4, e5, e6, e7, e8, e9, e10⟩ := hSW; go_simp <;> with_reducible rfl
        try simp only [Act.put, List.setIfInBounds_toArray, List.set_cons_zero, List.set_cons_succ]
        refine EG_take 4 (v := ?v19) (by simp only [List.getElem?_toArray, List.getElem?_cons_succ, List.getElem?_cons_zero]; rfl) (by kernel_rfl) (by kernel_rfl) (by decide) (fun _ _ _ h => h) (Or.inl ⟨by rfl, ?hy19⟩) (KEEP.out _ (ext_trans X2.out (ext_drew _))) ?rest19
        case hy19 => intro W hSW; (try dsimp only at hSW); obtain ⟨e0, e1, e2, e3, e4, e5, e6, e7, e8, e9, e10⟩ := hSW; go_simp <;> with_reducible rfl
        try simp only [Act.put, List.setIfInBounds_toArray, List.set_cons_zero, List.set_cons_succ]
        refine EG_take 5 (v := ?v20) (by simp only [List.getElem?_toArray, List.getElem?_cons_succ, List.getElem?_cons_zero]; rfl) (by kernel_rfl) (by kernel_rfl) (by decide) (fun _ _ _ h => h) (Or.inl ⟨by rfl, ?hy20⟩) (KEEP.out _ (ext_trans X2.out (ext_drew _))) ?rest20
        case hy20 => intro W hSW; (try dsimp only at hSW); obtain ⟨e0, e1, e2, e3, e4, e5, e6, e7, e8, e9, e10⟩ := hSW; go_simp <;> with_reducible rfl
        try simp only [Act.put, List.setIfInBounds_toArray, List.set_cons_zero, List.set_cons_succ]
        refine EG_take 6 (v := ?v21) (by simp only [List.getElem?_toArray, List.getElem?_cons_succ, List.getElem?_cons_zero]; rfl) (by kernel_rfl) (by kernel_rfl) (by decide) (fun _ _ _ h => h) (Or.inl ⟨by rfl, ?hy21⟩) (KEEP.out _ (ext_trans X2.out (ext_drew _))) ?rest21
        case hy21 => intro W hSW; (try dsimp only at hSW); obtain ⟨e0, e1, e2, e3, e4, e5, e6, e7, e8, e9, e10⟩ := hSW; go_simp <;> with_reducible rfl
        try simp only [Act.put, List.setIfInBounds_toArray, List.set_cons_zero, List.set_cons_succ]
        refine EG_take 7 (v := ?v22) (by simp only [List.getElem?_toArray, List.getElem?_cons_succ, List.getElem?_cons_zero]; rfl) (by kernel_rfl) (by kernel_rfl) (by decide) (fun _ _ _ h => h) (Or.inl ⟨by rfl, ?hy22⟩) (KEEP.out _ (ext_trans X2.out (ext_drew _))) ?rest22
        case hy22 => intro W hSW; (try dsimp only at hSW); obtain ⟨e0, e1, e2, e3, e4, e5, e6, e7, e8, e9, e10⟩ := hSW; go_simp <;> with_reducible rfl
        try simp only [Act.put, List.setIfInBounds_toArray, List.set_cons_zero, List.set_cons_succ]
        refine EG_take 8 (v := ?v23) (by simp only [List.getElem?_toArray, List.getElem?_cons_succ, List.getElem?_cons_zero]; rfl) (by kernel_rfl) (by kernel_rfl) (by decide) (fun _ _ _ h => h) (Or.inl ⟨by rfl, ?hy23⟩) (KEEP.out _ (ext_trans X2.out (ext_drew _))) ?rest23
        case hy23 => intro W hSW; (try dsimp only at hSW); obtain ⟨e0, e1, e2, e3, e4, e5, e6, e7, e8, e9, e10⟩ := hSW; go_simp <;> with_reducible rfl
        try simp only [Act.put, List.setIfInBounds_toArray, List.set_cons_zero, List.set_cons_succ]
        refine EG_take 9 (v := ?v24) (by simp only [List.getElem?_toArray, List.getElem?_cons_succ, List.getElem?_cons_zero]; rfl) (by kernel_rfl) (by kernel_rfl) (by decide) (fun _ _ _ h => h) (Or.inl ⟨by rfl, ?hy24⟩) (KEEP.out _ (ext_trans X2.out (ext_drew _))) ?rest24
        case hy24 => intro W hSW; (try dsimp only at hSW); obtain ⟨e0, e1, e2, e3, e4, e5, e6, e7, e8, e9, e10⟩ := hSW; go_simp <;> with_reducible rfl
        try simp only [Act.put, List.setIfInBounds_toArray, List.set_cons_zero, List.set_cons_succ]
        refine EG_take 10 (v := ?v25) (by simp only [List.getElem?_toArray, List.getElem?_cons_succ, List.getElem?_cons_zero]; rfl) (by kernel_rfl) (by kernel_rfl) (by decide) (fun _ _ _ h => h) (Or.inl ⟨by rfl, ?hy25⟩) (KEEP.out _ (ext_trans X2.out (ext_drew _))) ?rest25
        case hy25 => intro W hSW; (try dsimp only at hSW); obtain ⟨e0, e1, e2, e3, e4, e5, e6, e7, e8, e9, e10⟩ := hSW; go_simp <;> with_reducible rfl
        try simp only [Act.put, List.setIfInBounds_toArray, List.set_cons_zero, List.set_cons_succ]
        refine EG_take 11 (v := ?v26) (by simp only [List.getElem?_toArray, List.getElem?_cons_succ, List.getElem?_cons_zero]; rfl) (by kernel_rfl) (by kernel_rfl) (by decide) (fun _ _ _ h => h) (Or.inl ⟨by rfl, ?hy26⟩) (KEEP.out _ (ext_trans X2.out (ext_drew _))) ?rest26
        case hy26 => intro W hSW; (try dsimp only at hSW); obtain ⟨e0, e1, e2, e3, e4, e5, e6, e7, e8, e9, e10⟩ := hSW; go_simp <;> with_reducible rfl
        try simp only [Act.put, List.setIfInBounds_toArray, List.set_cons_zero, List.set_cons_succ]
        refine EG_one 12 (by kernel_rfl) (by simp only [List.getElem?_toArray, List.getElem?_cons_succ, List.getElem?_cons_zero]; rfl) (by decide) ?_
        intro K hK0
        have hK := hid hK0
        clear hK0
        go_simp
        refine (putnone_abs (AB.out.ext (ext_trans X2.out (ext_drew _))) nm m.a.type m.a.ttl m.a.now).mono ?_
        rintro e w3 ⟨rfl, x3⟩
        have X3 : Hid (Ext wr w3) := hid (ext_trans (ext_trans X2.out (ext_drew _)) x3)
        clear x3
        go_simp
        refine hK.out _ _ (KEEP.out _ X3.out) ?_
        clear hK K
        try simp only [Act.put, List.setIfInBounds_toArray, List.set_cons_zero, List.set_cons_succ]
        refine EG_take 13 (v := ?v27) (by simp only [List.getElem?_toArray, List.getElem?_cons_succ, List.getElem?_cons_zero]; rfl) (by kernel_rfl) (by kernel_rfl) (by decide) (fun _ _ _ h => h) (Or.inl ⟨by rfl, ?hy27⟩) (KEEP.out _ X3.out) ?rest27
        case hy27 => intro W hSW; (try dsimp only at hSW); obtain ⟨e0, e1, e2, e3, e4, e5, e6, e7, e8, e9, e10⟩ := hSW; go_simp <;> with_reducible rfl
        try simp only [Act.put, List.setIfInBounds_toArray, List.set_cons_zero, List.set_cons_succ]
        refine EG_take 14 (v := ?v28) (by simp only [List.getElem?_toArray, List.getElem?_cons_succ, List.getElem?_cons_zero]; rfl) (by kernel_rfl) (by kernel_rfl) (by decide) (fun _ _ _ h => h) (Or.inl ⟨by rfl, ?hy28⟩) (KEEP.out _ X3.out) ?rest28
        case hy28 => intro W hSW; (try dsimp only at hSW); obtain ⟨e0, e1, e2, e3, e4, e5, e6, e7, e8, e9, e10⟩ := hSW; go_simp <;> with_reducible rfl
        try simp only [Act.put, List.setIfInBounds_toArray, List.set_cons_zero, List.set_cons_succ]
        refine EG_take 15 (v := ?v29) (by simp only [List.getElem?_toArray, List.getElem?_cons_succ, List.getElem?_cons_zero]; rfl) (by kernel_rfl) (by kernel_rfl) (by decide) (fun _ _ _ h => h) (Or.inl ⟨by rfl, ?hy29⟩) (KEEP.out _ X3.out) ?rest29
        case hy29 => intro W hSW; (try dsimp only at hSW); obtain ⟨e0, e1, e2, e3, e4, e5, e6, e7, e8, e9, e10⟩ := hSW; go_simp <;> with_reducible rfl
        try simp only [Act.put, List.setIfInBounds_toArray, List.set_cons_zero, List.set_cons_succ]
        refine EG_take 16 (v := ?v30) (by simp only [List.getElem?_toArray, List.getElem?_cons_succ, List.getElem?_cons_zero]; rfl) (by kernel_rfl) (by kernel_rfl) (by decide) (fun _ _ _ h => h) (Or.inl ⟨by rfl, ?hy30⟩) (KEEP.out _ X3.out) ?rest30
        case hy30 => intro W hSW; (try dsimp only at hSW); obtain ⟨e0, e1, e2, e3, e4, e5, e6, e7, e8, e9, e10⟩ := hSW; go_simp <;> with_reducible rfl
        try simp only [Act.put, List.setIfInBounds_toArray, List.set_cons_zero, List.set_cons_succ]
        refine EG_end (by kernel_rfl) (by simp only [List.getElem?_toArray, List.getElem?_cons_succ, List.getElem?_cons_zero]; rfl) ?_
        intro K hK0
        have hK := hid hK0
        clear hK0
        go_simp
        refine hK.out _ _ ?_
        clear hK K
        refine NoPanic.normal ?_
        go_upto_region 10 with (fail)
        refine wp_region_noPanic ?_
        refine region_E (S := fun W => W.cell? ⟨pb, k, none⟩ = some v ∧ W.cell? ⟨gx, 1, none⟩ = some (.int .i64 m.a.now) ∧ W.cell? ⟨gx, 2, none⟩ = some (.int .i64 m.a.rank) ∧ W.cell? ⟨gx, 3, none⟩ = some (.int .i64 m.a.type) ∧ W.cell? ⟨gx, 4, none⟩ = some (.int .i64 m.a.ttl) ∧ W.cell? ⟨gx, 5, none⟩ = some (.string nm) ∧ W.cell? ⟨gx, 6, none⟩ = some (.string sn) ∧ W.cell? ⟨gx, 7, none⟩ = some (.int .i64 m.a.s.ty) ∧ W.cell? ⟨gx, 8, none⟩ = some (.int .i64 m.a.s.cl) ∧ W.cell? ⟨gx, 9, none⟩ = some (.int .i64 m.a.s.ttl) ∧ W.cell? ⟨gx, 10, none⟩ = some (.slice m.A n m.d)) 58 (by kernel_rfl) (by kernel_rfl) (by kernel_rfl) ?_
        refine EG_take 0 (v := ?v31) (by simp only [List.getElem?_toArray, List.getElem?_cons_succ, List.getElem?_cons_zero]; rfl) (by kernel_rfl) (by kernel_rfl) (by decide) (fun _ _ _ h => h) (Or.inl ⟨by rfl, ?hy31⟩) (KEEP.out _ (ext_trans X3.out (ext_drew _))) ?rest31
        case hy31 => intro W hSW; (try dsimp only at hSW); obtain ⟨e0, e1, e2, e3, e4, e5, e6, e7, e8, e9, e10⟩ := hSW; go_simp <;> with_reducible rfl
        try simp only [Act.put, List.setIfInBounds_toArray, List.set_cons_zero, List.set_cons_succ]
        refine EG_take 1 (v := ?v32) (by simp only [List.getElem?_toArray, List.getElem?_cons_succ, List.getElem?_cons_zero]; rfl) (by kernel_rfl) (by kernel_rfl) (by decide) (fun _ _ _ h => h) (Or.inl ⟨by rfl, ?hy32⟩) (KEEP.out _ (ext_trans X3.out (ext_drew _))) ?rest32
        case hy32 => intro W hSW; (try dsimp only at hSW); obtain ⟨e0, e1, e2, e3, e4, e5, e6, e7, e8, e9, e10⟩ := hSW; go_simp <;> with_reducible rfl
        try simp only [Act.put, List.setIfInBounds_toArray, List.set_cons_zero, List.set_cons_succ]
        refine EG_take 2 (v := ?v33) (by simp only [List.getElem?_toArray, List.getElem?_cons_succ, List.getElem?_cons_zero]; rfl) (by kernel_rfl) (by kernel_rfl) (by decide) (fun _ _ _ h => h) (Or.inl ⟨by rfl, ?hy33⟩) (KEEP.out _ (ext_trans X3.out (ext_drew _))) ?rest33
        case hy33 => intro W hSW; (try dsimp only at hSW); obtain ⟨e0, e1, e2, e3, e4, e5, e6, e7, e8, e9, e10⟩ := hSW; go_simp <;> with_reducible rfl
        try simp only [Act.put, List.setIfInBounds_toArray, List.set_cons_zero, List.set_cons_succ]
        refine EG_take 3 (v := ?v34) (by simp only [List.getElem?_toArray, List.getElem?_cons_succ, List.getElem?_cons_zero]; rfl) (by kernel_rfl) (by kernel_rfl) (by decide) (fun _ _ _ h => h) (Or.inl ⟨by rfl, ?hy34⟩) (KEEP.out _ (ext_trans X3.out (ext_drew _))) ?rest34
        case hy34 => intro W hSW; (try dsimp only at hSW); obtain ⟨e0, e1, e2, e3, e4, e5, e6, e7, e8, e9, e10⟩ := hSW; go_simp <;> with_reducible rfl
        try simp only [Act.put, List.setIfInBounds_toArray, List.set_cons_zero, List.set_cons_succ]
        refine EG_take 4 (v := ?v35) (by simp only [List.getElem?_toArray, List.getElem?_cons_succ, List.getElem?_cons_zero]; rfl) (by kernel_rfl) (by kernel_rfl) (by decide) (fun _ _ _ h => h) (Or.inl ⟨by rfl, ?hy35⟩) (KEEP.out _ (ext_trans X3.out (ext_drew _))) ?rest35
        case hy35 => intro W hSW; (try dsimp only at hSW); obtain ⟨e0, e1, e2, e3, e4, e5, e6, e7, e8, e9, e10⟩ := hSW; go_simp <;> with_reducible rfl
        try simp only [Act.put, List.setIfInBounds_toArray, List.set_cons_zero, List.set_cons_succ]
        refine EG_take 5 (v := ?v36) (by simp only [List.getElem?_toArray, List.getElem?_cons_succ, List.getElem?_cons_zero]; rfl) (by kernel_rfl) (by kernel_rfl) (by decide) (fun _ _ _ h => h) (Or.inl ⟨by rfl, ?hy36⟩) (KEEP.out _ (ext_trans X3.out (ext_drew _))) ?rest36
        case hy36 => intro W hSW; (try dsimp only at hSW); obtain ⟨e0, e1, e2, e3, e4, e5, e6, e7, e8, e9, e10⟩ := hSW; go_simp <;> with_reducible rfl
        try simp only [Act.put, List.setIfInBounds_toArray, List.set_cons_zero, List.set_cons_succ]
        refine EG_take 6 (v := ?v37) (by simp only [List.getElem?_toArray, List.getElem?_cons_succ, List.getElem?_cons_zero]; rfl) (by kernel_rfl) (by kernel_rfl) (by decide) (fun _ _ _ h => h) (Or.inl ⟨by rfl, ?hy37⟩) (KEEP.out _ (ext_trans X3.out (ext_drew _))) ?rest37
        case hy37 => intro W hSW; (try dsimp only at hSW); obtain ⟨e0, e1, e2, e3, e4, e5, e6, e7, e8, e9, e10⟩ := hSW; go_simp <;> with_reducible rfl
        try simp only [Act.put, List.setIfInBounds_toArray, List.set_cons_zero, List.set_cons_succ]
        refine EG_take 7 (v := ?v38) (by simp only [List.getElem?_toArray, List.getElem?_cons_succ, List.getElem?_cons_zero]; rfl) (by kernel_rfl) (by kernel_rfl) (by decide) (fun _ _ _ h => h) (Or.inl ⟨by rfl, ?hy38⟩) (KEEP.out _ (ext_trans X3.out (ext_drew _))) ?rest38
        case hy38 => intro W hSW; (try dsimp only at hSW); obtain ⟨e0, e1, e2, e3, e4, e5, e6, e7, e8, e9, e10⟩ := hSW; go_simp <;> with_reducible rfl
        try simp only [Act.put, List.setIfInBounds_toArray, List.set_cons_zero, List.set_cons_succ]
        refine EG_take 8 (v := ?v39) (by simp only [List.getElem?_toArray, List.getElem?_cons_succ, List.getElem?_cons_zero]; rfl) (by kernel_rfl) (by kernel_rfl) (by decide) (fun _ _ _ h => h) (Or.inl ⟨by rfl, ?hy39⟩) (KEEP.out _ (ext_trans X3.out (ext_drew _))) ?rest39
        case hy39 => intro W hSW; (try dsimp only at hSW); obtain ⟨e0, e1, e2, e3, e4, e5, e6, e7, e8, e9, e10⟩ := hSW; go_simp <;> with_reducible rfl
        try simp only [Act.put, List.setIfInBounds_toArray, List.set_cons_zero, List.set_cons_succ]
        refine EG_take 9 (v := ?v40) (by simp only [List.getElem?_toArray, List.getElem?_cons_succ, List.getElem?_cons_zero]; rfl) (by kernel_rfl) (by kernel_rfl) (by decide) (fun _ _ _ h => h) (Or.inl ⟨by rfl, ?hy40⟩) (KEEP.out _ (ext_trans X3.out (ext_drew _))) ?rest40
        case hy40 => intro W hSW; (try dsimp only at hSW); obtain ⟨e0, e1, e2, e3, e4, e5, e6, e7, e8, e9, e10⟩ := hSW; go_simp <;> with_reducible rfl
        try simp only [Act.put, List.setIfInBounds_toArray, List.set_cons_zero, List.set_cons_succ]
        refine EG_take 10 (v := ?v41) (by simp only [List.getElem?_toArray, List.getElem?_cons_succ, List.getElem?_cons_zero]; rfl) (by kernel_rfl) (by kernel_rfl) (by decide) (fun _ _ _ h => h) (Or.inl ⟨by rfl, ?hy41⟩) (KEEP.out _ (ext_trans X3.out (ext_drew _))) ?rest41
        case hy41 => intro W hSW; (try dsimp only at hSW); obtain ⟨e0, e1, e2, e3, e4, e5, e6, e7, e8, e9, e10⟩ := hSW; go_simp <;> with_reducible rfl
        try simp only [Act.put, List.setIfInBounds_toArray, List.set_cons_zero, List.set_cons_succ]
        refine EG_take 11 (v := ?v42) (by simp only [List.getElem?_toArray, List.getElem?_cons_succ, List.getElem?_cons_zero]; rfl) (by kernel_rfl) (by kernel_rfl) (by decide) (fun _ _ _ h => h) (Or.inl ⟨by rfl, ?hy42⟩) (KEEP.out _ (ext_trans X3.out (ext_drew _))) ?rest42
        case hy42 => intro W hSW; (try dsimp only at hSW); obtain ⟨e0, e1, e2, e3, e4, e5, e6, e7, e8, e9, e10⟩ := hSW; go_simp <;> with_reducible rfl
        try simp only [Act.put, List.setIfInBounds_toArray, List.set_cons_zero, List.set_cons_succ]
        refine EG_take 12 (v := ?v43) (by simp only [List.getElem?_toArray, List.getElem?_cons_succ, List.getElem?_cons_zero]; rfl) (by kernel_rfl) (by kernel_rfl) (by decide) (fun _ _ _ h => h) (Or.inl ⟨by rfl, ?hy43⟩) (KEEP.out _ (ext_trans X3.out (ext_drew _))) ?rest43
        case hy43 => intro W hSW; (try dsimp only at hSW); obtain ⟨e0, e1, e2, e3, e4, e5, e6, e7, e8, e9, e10⟩ := hSW; go_simp <;> with_reducible rfl
        try simp only [Act.put, List.setIfInBounds_toArray, List.set_cons_zero, List.set_cons_succ]
        refine EG_take 13 (v := ?v44) (by simp only [List.getElem?_toArray, List.getElem?_cons_succ, List.getElem?_cons_zero]; rfl) (by kernel_rfl) (by kernel_rfl) (by decide) (fun _ _ _ h => h) (Or.inl ⟨by rfl, ?hy44⟩) (KEEP.out _ (ext_trans X3.out (ext_drew _))) ?rest44
        case hy44 => intro W hSW; (try dsimp only at hSW); obtain ⟨e0, e1, e2, e3, e4, e5, e6, e7, e8, e9, e10⟩ := hSW; go_simp <;> with_reducible rfl
        try simp only [Act.put, List.setIfInBounds_toArray, List.set_cons_zero, List.set_cons_succ]
        refine EG_take 14 (v := ?v45) (by simp only [List.getElem?_toArray, List.getElem?_cons_succ, List.getElem?_cons_zero]; rfl) (by kernel_rfl) (by kernel_rfl) (by decide) (fun _ _ _ h => h) (Or.inl ⟨by rfl, ?hy45⟩) (KEEP.out _ (ext_trans X3.out (ext_drew _))) ?rest45
        case hy45 => intro W hSW; (try dsimp only at hSW); obtain ⟨e0, e1, e2, e3, e4, e5, e6, e7, e8, e9, e10⟩ := hSW; go_simp <;> with_reducible rfl
        try simp only [Act.put, List.setIfInBounds_toArray, List.set_cons_zero, List.set_cons_succ]
        refine EG_take 15 (v := ?v46) (by simp only [List.getElem?_toArray, List.getElem?_cons_succ, List.getElem?_cons_zero]; rfl) (by kernel_rfl) (by kernel_rfl) (by decide) (fun _ _ _ h => h) (Or.inl ⟨by rfl, ?hy46⟩) (KEEP.out _ (ext_trans X3.out (ext_drew _))) ?rest46
        case hy46 => intro W hSW; (try dsimp only at hSW); obtain ⟨e0, e1, e2, e3, e4, e5, e6, e7, e8, e9, e10⟩ := hSW; go_simp <;> with_reducible rfl
        try simp only [Act.put, List.setIfInBounds_toArray, List.set_cons_zero, List.set_cons_succ]
        refine EG_take 16 (v := ?v47) (by simp only [List.getElem?_toArray, List.getElem?_cons_succ, List.getElem?_cons_zero]; rfl) (by kernel_rfl) (by kernel_rfl) (by decide) (fun _ _ _ h => h) (Or.inl ⟨by rfl, ?hy47⟩) (KEEP.out _ (ext_trans X3.out (ext_drew _))) ?rest47
        case hy47 => intro W hSW; (try dsimp only at hSW); obtain ⟨e0, e1, e2, e3, e4, e5, e6, e7, e8, e9, e10⟩ := hSW; go_simp <;> with_reducible rfl
        try simp only [Act.put, List.setIfInBounds_toArray, List.set_cons_zero, List.set_cons_succ]
        refine EG_take 17 (v := ?v48) (by simp only [List.getElem?_toArray, List.getElem?_cons_succ, List.getElem?_cons_zero]; rfl) (by kernel_rfl) (by kernel_rfl) (by decide) (fun _ _ _ h => h) (Or.inl ⟨by rfl, ?hy48⟩) (KEEP.out _ (ext_trans X3.out (ext_drew _))) ?rest48
        case hy48 => intro W hSW; (try dsimp only at hSW); obtain ⟨e0, e1, e2, e3, e4, e5, e6, e7, e8, e9, e10⟩ := hSW; go_simp <;> with_reducible rfl
        try simp only [Act.put, List.setIfInBounds_toArray, List.set_cons_zero, List.set_cons_succ]
        refine EG_take 18 (v := ?v49) (by simp only [List.getElem?_toArray, List.getElem?_cons_succ, List.getElem?_cons_zero]; rfl) (by kernel_rfl) (by kernel_rfl) (by decide) (fun _ _ _ h => h) (Or.inl ⟨by rfl, ?hy49⟩) (KEEP.out _ (ext_trans X3.out (ext_drew _))) ?rest49
        case hy49 => intro W hSW; (try dsimp only at hSW); obtain ⟨e0, e1, e2, e3, e4, e5, e6, e7, e8, e9, e10⟩ := hSW; go_simp <;> with_reducible rfl
        try simp only [Act.put, List.setIfInBounds_toArray, List.set_cons_zero, List.set_cons_succ]
        refine EG_take 19 (v := ?v50) (by simp only [List.getElem?_toArray, List.getElem?_cons_succ, List.getElem?_cons_zero]; rfl) (by kernel_rfl) (by kernel_rfl) (by decide) (fun _ _ _ h => h) (Or.inl ⟨by rfl, ?hy50⟩) (KEEP.out _ (ext_trans X3.out (ext_drew _))) ?rest50
        case hy50 => intro W hSW; (try dsimp only at hSW); obtain ⟨e0, e1, e2, e3, e4, e5, e6, e7, e8, e9, e10⟩ := hSW; go_simp <;> with_reducible rfl
        try simp only [Act.put, List.setIfInBounds_toArray, List.set_cons_zero, List.set_cons_succ]
        refine EG_take 20 (v := ?v51) (by simp only [List.getElem?_toArray, List.getElem?_cons_succ, List.getElem?_cons_zero]; rfl) (by kernel_rfl) (by kernel_rfl) (by decide) (fun _ _ _ h => h) (Or.inl ⟨by rfl, ?hy51⟩) (KEEP.out _ (ext_trans X3.out (ext_drew _))) ?rest51
        case hy51 => intro W hSW; (try dsimp only at hSW); obtain ⟨e0, e1, e2, e3, e4, e5, e6, e7, e8, e9, e10⟩ := hSW; go_simp <;> with_reducible rfl
        try simp only [Act.put, List.setIfInBounds_toArray, List.set_cons_zero, List.set_cons_succ]
        refine EG_take 21 (v := ?v52) (by simp only [List.getElem?_toArray, List.getElem?_cons_succ, List.getElem?_cons_zero]; rfl) (by kernel_rfl) (by kernel_rfl) (by decide) (fun _ _ _ h => h) (Or.inl ⟨by rfl, ?hy52⟩) (KEEP.out _ (ext_trans X3.out (ext_drew _))) ?rest52
        case hy52 => intro W hSW; (try dsimp only at hSW); obtain ⟨e0, e1, e2, e3, e4, e5, e6, e7, e8, e9, e10⟩ := hSW; go_simp <;> with_reducible rfl
        try simp only [Act.put, List.setIfInBounds_toArray, List.set_cons_zero, List.set_cons_succ]
        refine EG_take 22 (v := ?v53) (by simp only [List.getElem?_toArray, List.getElem?_cons_succ, List.getElem?_cons_zero]; rfl) (by kernel_rfl) (by kernel_rfl) (by decide) (fun _ _ _ h => h) (Or.inl ⟨by rfl, ?hy53⟩) (KEEP.out _ (ext_trans X3.out (ext_drew _))) ?rest53
        case hy53 => intro W hSW; (try dsimp only at hSW); obtain ⟨e0, e1, e2, e3, e4, e5, e6, e7, e8, e9, e10⟩ := hSW; go_simp <;> with_reducible rfl
        try simp only [Act.put, List.setIfInBounds_toArray, List.set_cons_zero, List.set_cons_succ]
        refine EG_take 23 (v := ?v54) (by simp only [List.getElem?_toArray, List.getElem?_cons_succ, List.getElem?_cons_zero]; rfl) (by kernel_rfl) (by kernel_rfl) (by decide) (fun _ _ _ h => h) (Or.inl ⟨by rfl, ?hy54⟩) (KEEP.out _ (ext_trans X3.out (ext_drew _))) ?rest54
        case hy54 => intro W hSW; (try dsimp only at hSW); obtain ⟨e0, e1, e2, e3, e4, e5, e6, e7, e8, e9, e10⟩ := hSW; go_simp <;> with_reducible rfl
        try simp only [Act.put, List.setIfInBounds_toArray, List.set_cons_zero, List.set_cons_succ]
        refine EG_take 24 (v := ?v55) (by simp only [List.getElem?_toArray, List.getElem?_cons_succ, List.getElem?_cons_zero]; rfl) (by kernel_rfl) (by kernel_rfl) (by decide) (fun _ _ _ h => h) (Or.inl ⟨by rfl, ?hy55⟩) (KEEP.out _ (ext_trans X3.out (ext_drew _))) ?rest55
        case hy55 => intro W hSW; (try dsimp only at hSW); obtain ⟨e0, e1, e2, e3, e4, e5, e6, e7, e8, e9, e10⟩ := hSW; go_simp <;> with_reducible rfl
        try simp only [Act.put, List.setIfInBounds_toArray, List.set_cons_zero, List.set_cons_succ]
        refine EG_take 26 (v := ?v56) (by simp only [List.getElem?_toArray, List.getElem?_cons_succ, List.getElem?_cons_zero]; rfl) (by kernel_rfl) (by kernel_rfl) (by decide) (fun _ _ _ h => h) (Or.inl ⟨by rfl, ?hy56⟩) (KEEP.out _ (ext_trans X3.out (ext_drew _))) ?rest56
        case hy56 => intro W hSW; (try dsimp only at hSW); obtain ⟨e0, e1, e2, e3, e4, e5, e6, e7, e8, e9, e10⟩ := hSW; go_simp <;> with_reducible rfl
        try simp only [Act.put, List.setIfInBounds_toArray, List.set_cons_zero, List.set_cons_succ]
        refine EG_one 25 (by kernel_rfl) (by simp only [List.getElem?_toArray, List.getElem?_cons_succ, List.getElem?_cons_zero]; rfl) (by decide) ?_
        intro K hK0
        have hK := hid hK0
        clear hK0
        go_simp
        refine (get_abs (AB.out.ext (ext_trans X3.out (ext_drew _))) nm m.a.type m.a.rank m.a.now).mono ?_
        rintro e w4 ⟨rfl, x4⟩
        have X4 : Hid (Ext wr w4) := hid (ext_trans (ext_trans X3.out (ext_drew _)) x4)
        clear x4
        go_simp
        refine hK.out _ _ (KEEP.out _ X4.out) ?_
        clear hK K
        try simp only [Act.put, List.setIfInBounds_toArray, List.set_cons_zero, List.set_cons_succ]
        refine EG_one 27 (by kernel_rfl) (by simp only [List.getElem?_toArray, List.getElem?_cons_succ, List.getElem?_cons_zero]; rfl) (by decide) ?_
        intro K hK0
        have hK := hid hK0
        clear hK0
        go_simp
        refine (same_zero _).mono ?_
        rintro e w5 ⟨rfl, x5⟩
        have X5 : Hid (Ext wr w5) := hid (ext_trans X4.out x5)
        clear x5
        go_simp
        refine hK.out _ _ (KEEP.out _ X5.out) ?_
        clear hK K
        try simp only [Act.put, List.setIfInBounds_toArray, List.set_cons_zero, List.set_cons_succ]
        refine EG_take 28 (v := ?v57) (by simp only [List.getElem?_toArray, List.getElem?_cons_succ, List.getElem?_cons_zero]; rfl) (by kernel_rfl) (by kernel_rfl) (by decide) (fun _ _ _ h => h) (Or.inl ⟨by rfl, ?hy57⟩) (KEEP.out _ X5.out) ?rest57
        case hy57 => intro W hSW; (try dsimp only at hSW); obtain ⟨e0, e1, e2, e3, e4, e5, e6, e7, e8, e9, e10⟩ := hSW; go_simp <;> with_reducible rfl
        try simp only [Act.put, List.setIfInBounds_toArray, List.set_cons_zero, List.set_cons_succ]
        refine EG_take 29 (v := ?v58) (by simp only [List.getElem?_toArray, List.getElem?_cons_succ, List.getElem?_cons_zero]; rfl) (by kernel_rfl) (by kernel_rfl) (by decide) (fun _ _ _ h => h) (Or.inl ⟨by rfl, ?hy58⟩) (KEEP.out _ X5.out) ?rest58
        case hy58 => intro W hSW; (try dsimp only at hSW); obtain ⟨e0, e1, e2, e3, e4, e5, e6, e7, e8, e9, e10⟩ := hSW; go_simp <;> with_reducible rfl
        try simp only [Act.put, List.setIfInBounds_toArray, List.set_cons_zero, List.set_cons_succ]
        refine EG_take 30 (v := ?v59) (by simp only [List.getElem?_toArray, List.getElem?_cons_succ, List.getElem?_cons_zero]; rfl) (by kernel_rfl) (by kernel_rfl) (by decide) (fun _ _ _ h => h) (Or.inl ⟨by rfl, ?hy59⟩) (KEEP.out _ X5.out) ?rest59
        case hy59 => intro W hSW; (try dsimp only at hSW); obtain ⟨e0, e1, e2, e3, e4, e5, e6, e7, e8, e9, e10⟩ := hSW; go_simp <;> with_reducible rfl
        try simp only [Act.put, List.setIfInBounds_toArray, List.set_cons_zero, List.set_cons_succ]
        refine EG_take 31 (v := ?v60) (by simp only [List.getElem?_toArray, List.getElem?_cons_succ, List.getElem?_cons_zero]; rfl) (by kernel_rfl) (by kernel_rfl) (by decide) (fun _ _ _ h => h) (Or.inl ⟨by rfl, ?hy60⟩) (KEEP.out _ X5.out) ?rest60
        case hy60 => intro W hSW; (try dsimp only at hSW); obtain ⟨e0, e1, e2, e3, e4, e5, e6, e7, e8, e9, e10⟩ := hSW; go_simp <;> with_reducible rfl
        try simp only [Act.put, List.setIfInBounds_toArray, List.set_cons_zero, List.set_cons_succ]
        refine EG_take 32 (v := ?v61) (by simp only [List.getElem?_toArray, List.getElem?_cons_succ, List.getElem?_cons_zero]; rfl) (by kernel_rfl) (by kernel_rfl) (by decide) (fun _ _ _ h => h) (Or.inl ⟨by rfl, ?hy61⟩) (KEEP.out _ X5.out) ?rest61
        case hy61 => intro W hSW; (try dsimp only at hSW); obtain ⟨e0, e1, e2, e3, e4, e5, e6, e7, e8, e9, e10⟩ := hSW; go_simp <;> with_reducible rfl
        try simp only [Act.put, List.setIfInBounds_toArray, List.set_cons_zero, List.set_cons_succ]
        refine EG_take 33 (v := ?v62) (by simp only [List.getElem?_toArray, List.getElem?_cons_succ, List.getElem?_cons_zero]; rfl) (by kernel_rfl) (by kernel_rfl) (by decide) (fun _ _ _ h => h) (Or.inl ⟨by rfl, ?hy62⟩) (KEEP.out _ X5.out) ?rest62
        case hy62 => intro W hSW; (try dsimp only at hSW); obtain ⟨e0, e1, e2, e3, e4, e5, e6, e7, e8, e9, e10⟩ := hSW; go_simp <;> with_reducible rfl
        try simp only [Act.put, List.setIfInBounds_toArray, List.set_cons_zero, List.set_cons_succ]
        refine EG_take 34 (v := ?v63) (by simp only [List.getElem?_toArray, List.getElem?_cons_succ, List.getElem?_cons_zero]; rfl) (by kernel_rfl) (by kernel_rfl) (by decide) (fun _ _ _ h => h) (Or.inl ⟨by rfl, ?hy63⟩) (KEEP.out _ X5.out) ?rest63
        case hy63 => intro W hSW; (try dsimp only at hSW); obtain ⟨e0, e1, e2, e3, e4, e5, e6, e7, e8, e9, e10⟩ := hSW; go_simp <;> with_reducible rfl
        try simp only [Act.put, List.setIfInBounds_toArray, List.set_cons_zero, List.set_cons_succ]
        refine EG_take 35 (v := ?v64) (by simp only [List.getElem?_toArray, List.getElem?_cons_succ, List.getElem?_cons_zero]; rfl) (by kernel_rfl) (by kernel_rfl) (by decide) (fun _ _ _ h => h) (Or.inl ⟨by rfl, ?hy64⟩) (KEEP.out _ X5.out) ?rest64
        case hy64 => intro W hSW; (try dsimp only at hSW); obtain ⟨e0, e1, e2, e3, e4, e5, e6, e7, e8, e9, e10⟩ := hSW; go_simp <;> with_reducible rfl
        try simp only [Act.put, List.setIfInBounds_toArray, List.set_cons_zero, List.set_cons_succ]
        refine EG_take 36 (v := ?v65) (by simp only [List.getElem?_toArray, List.getElem?_cons_succ, List.getElem?_cons_zero]; rfl) (by kernel_rfl) (by kernel_rfl) (by decide) (fun _ _ _ h => h) (Or.inl ⟨by rfl, ?hy65⟩) (KEEP.out _ X5.out) ?rest65
        case hy65 => intro W hSW; (try dsimp only at hSW); obtain ⟨e0, e1, e2, e3, e4, e5, e6, e7, e8, e9, e10⟩ := hSW; go_simp <;> with_reducible rfl
        try simp only [Act.put, List.setIfInBounds_toArray, List.set_cons_zero, List.set_cons_succ]
        refine EG_one 37 (by kernel_rfl) (by simp only [List.getElem?_toArray, List.getElem?_cons_succ, List.getElem?_cons_zero]; rfl) (by decide) ?_
        intro K hK0
        have hK := hid hK0
        clear hK0
        go_simp
        refine (sweep_abs (AB.out.ext X5.out) m.a.now).mono ?_
        rintro e w6 ⟨rfl, x6⟩
        have X6 : Hid (Ext wr w6) := hid (ext_trans X5.out x6)
        clear x6
        go_simp
        refine hK.out _ _ (KEEP.out _ X6.out) ?_
        clear hK K
        try simp only [Act.put, List.setIfInBounds_toArray, List.set_cons_zero, List.set_cons_succ]
        refine EG_take 38 (v := ?v66) (by simp only [List.getElem?_toArray, List.getElem?_cons_succ, List.getElem?_cons_zero]; rfl) (by kernel_rfl) (by kernel_rfl) (by decide) (fun _ _ _ h => h) (Or.inl ⟨by rfl, ?hy66⟩) (KEEP.out _ X6.out) ?rest66
        case hy66 => intro W hSW; (try dsimp only at hSW); obtain ⟨e0, e1, e2, e3, e4, e5, e6, e7, e8, e9, e10⟩ := hSW; go_simp <;> with_reducible rfl
        try simp only [Act.put, List.setIfInBounds_toArray, List.set_cons_zero, List.set_cons_succ]
        refine EG_take 39 (v := ?v67) (by simp only [List.getElem?_toArray, List.getElem?_cons_succ, List.getElem?_cons_zero]; rfl) (by kernel_rfl) (by kernel_rfl) (by decide) (fun _ _ _ h => h) (Or.inl ⟨by rfl, ?hy67⟩) (KEEP.out _ X6.out) ?rest67
        case hy67 => intro W hSW; (try dsimp only at hSW); obtain ⟨e0, e1, e2, e3, e4, e5, e6, e7, e8, e9, e10⟩ := hSW; go_simp <;> with_reducible rfl
        try simp only [Act.put, List.setIfInBounds_toArray, List.set_cons_zero, List.set_cons_succ]
        refine EG_take 40 (v := ?v68) (by simp only [List.getElem?_toArray, List.getElem?_cons_succ, List.getElem?_cons_zero]; rfl) (by kernel_rfl) (by kernel_rfl) (by decide) (fun _ _ _ h => h) (Or.inl ⟨by rfl, ?hy68⟩) (KEEP.out _ X6.out) ?rest68
        case hy68 => intro W hSW; (try dsimp only at hSW); obtain ⟨e0, e1, e2, e3, e4, e5, e6, e7, e8, e9, e10⟩ := hSW; go_simp <;> with_reducible rfl
        try simp only [Act.put, List.setIfInBounds_toArray, List.set_cons_zero, List.set_cons_succ]
        refine EG_take 41 (v := ?v69) (by simp only [List.getElem?_toArray, List.getElem?_cons_succ, List.getElem?_cons_zero]; rfl) (by kernel_rfl) (by kernel_rfl) (by decide) (fun _ _ _ h => h) (Or.inl ⟨by rfl, ?hy69⟩) (KEEP.out _ X6.out) ?rest69
        case hy69 => intro W hSW; (try dsimp only at hSW); obtain ⟨e0, e1, e2, e3, e4, e5, e6, e7, e8, e9, e10⟩ := hSW; go_simp <;> with_reducible rfl
        try simp only [Act.put, List.setIfInBounds_toArray, List.set_cons_zero, List.set_cons_succ]
        refine EG_take 42 (v := ?v70) (by simp only [List.getElem?_toArray, List.getElem?_cons_succ, List.getElem?_cons_zero]; rfl) (by kernel_rfl) (by kernel_rfl) (by decide) (fun _ _ _ h => h) (Or.inl ⟨by rfl, ?hy70⟩) (KEEP.out _ X6.out) ?rest70
        case hy70 => intro W hSW; (try dsimp only at hSW); obtain ⟨e0, e1, e2, e3, e4, e5, e6, e7, e8, e9, e10⟩ := hSW; go_simp <;> with_reducible rfl
        try simp only [Act.put, List.setIfInBounds_toArray, List.set_cons_zero, List.set_cons_succ]
        refine EG_take 43 (v := ?v71) (by simp only [List.getElem?_toArray, List.getElem?_cons_succ, List.getElem?_cons_zero]; rfl) (by kernel_rfl) (by kernel_rfl) (by decide) (fun _ _ _ h => h) (Or.inl ⟨by rfl, ?hy71⟩) (KEEP.out _ X6.out) ?rest71
        case hy71 => intro W hSW; (try dsimp only at hSW); obtain ⟨e0, e1, e2, e3, e4, e5, e6, e7, e8, e9, e10⟩ := hSW; go_simp <;> with_reducible rfl
        try simp only [Act.put, List.setIfInBounds_toArray, List.set_cons_zero, List.set_cons_succ]
        refine EG_take 44 (v := ?v72) (by simp only [List.getElem?_toArray, List.getElem?_cons_succ, List.getElem?_cons_zero]; rfl) (by kernel_rfl) (by kernel_rfl) (by decide) (fun _ _ _ h => h) (Or.inl ⟨by rfl, ?hy72⟩) (KEEP.out _ X6.out) ?rest72
        case hy72 => intro W hSW; (try dsimp only at hSW); obtain ⟨e0, e1, e2, e3, e4, e5, e6, e7, e8, e9, e10⟩ := hSW; go_simp <;> with_reducible rfl
        try simp only [Act.put, List.setIfInBounds_toArray, List.set_cons_zero, List.set_cons_succ]
        refine EG_one 45 (by kernel_rfl) (by simp only [List.getElem?_toArray, List.getElem?_cons_succ, List.getElem?_cons_zero]; rfl) (by decide) ?_
        intro K hK0
        have hK := hid hK0
        clear hK0
        go_simp
        refine (len_abs (AB.out.ext X6.out)).mono ?_
        rintro e w7 ⟨rfl, x7⟩
        have X7 : Hid (Ext wr w7) := hid (ext_trans X6.out x7)
        clear x7
        go_simp
        refine hK.out _ _ (KEEP.out _ X7.out) ?_
        clear hK K
        try simp only [Act.put, List.setIfInBounds_toArray, List.set_cons_zero, List.set_cons_succ]
        refine EG_take 46 (v := ?v73) (by simp only [List.getElem?_toArray, List.getElem?_cons_succ, List.getElem?_cons_zero]; rfl) (by kernel_rfl) (by kernel_rfl) (by decide) (fun _ _ _ h => h) (Or.inl ⟨by rfl, ?hy73⟩) (KEEP.out _ X7.out) ?rest73
        case hy73 => intro W hSW; (try dsimp only at hSW); obtain ⟨e0, e1, e2, e3, e4, e5, e6, e7, e8, e9, e10⟩ := hSW; go_simp <;> with_reducible rfl
        try simp only [Act.put, List.setIfInBounds_toArray, List.set_cons_zero, List.set_cons_succ]
        refine EG_take 47 (v := ?v74) (by simp only [List.getElem?_toArray, List.getElem?_cons_succ, List.getElem?_cons_zero]; rfl) (by kernel_rfl) (by kernel_rfl) (by decide) (fun _ _ _ h => h) (Or.inl ⟨by rfl, ?hy74⟩) (KEEP.out _ X7.out) ?rest74
        case hy74 => intro W hSW; (try dsimp only at hSW); obtain ⟨e0, e1, e2, e3, e4, e5, e6, e7, e8, e9, e10⟩ := hSW; go_simp <;> with_reducible rfl
        try simp only [Act.put, List.setIfInBounds_toArray, List.set_cons_zero, List.set_cons_succ]
        refine EG_take 48 (v := ?v75) (by simp only [List.getElem?_toArray, List.getElem?_cons_succ, List.getElem?_cons_zero]; rfl) (by kernel_rfl) (by kernel_rfl) (by decide) (fun _ _ _ h => h) (Or.inl ⟨by rfl, ?hy75⟩) (KEEP.out _ X7.out) ?rest75
        case hy75 => intro W hSW; (try dsimp only at hSW); obtain ⟨e0, e1, e2, e3, e4, e5, e6, e7, e8, e9, e10⟩ := hSW; go_simp <;> with_reducible rfl
        try simp only [Act.put, List.setIfInBounds_toArray, List.set_cons_zero, List.set_cons_succ]
        refine EG_take 49 (v := ?v76) (by simp only [List.getElem?_toArray, List.getElem?_cons_succ, List.getElem?_cons_zero]; rfl) (by kernel_rfl) (by kernel_rfl) (by decide) (fun _ _ _ h => h) (Or.inl ⟨by rfl, ?hy76⟩) (KEEP.out _ X7.out) ?rest76
        case hy76 => intro W hSW; (try dsimp only at hSW); obtain ⟨e0, e1, e2, e3, e4, e5, e6, e7, e8, e9, e10⟩ := hSW; go_simp <;> with_reducible rfl
        try simp only [Act.put, List.setIfInBounds_toArray, List.set_cons_zero, List.set_cons_succ]
        refine EG_take 50 (v := ?v77) (by simp only [List.getElem?_toArray, List.getElem?_cons_succ, List.getElem?_cons_zero]; rfl) (by kernel_rfl) (by kernel_rfl) (by decide) (fun _ _ _ h => h) (Or.inl ⟨by rfl, ?hy77⟩) (KEEP.out _ X7.out) ?rest77
        case hy77 => intro W hSW; (try dsimp only at hSW); obtain ⟨e0, e1, e2, e3, e4, e5, e6, e7, e8, e9, e10⟩ := hSW; go_simp <;> with_reducible rfl
        try simp only [Act.put, List.setIfInBounds_toArray, List.set_cons_zero, List.set_cons_succ]
        refine EG_take 51 (v := ?v78) (by simp only [List.getElem?_toArray, List.getElem?_cons_succ, List.getElem?_cons_zero]; rfl) (by kernel_rfl) (by kernel_rfl) (by decide) (fun _ _ _ h => h) (Or.inl ⟨by rfl, ?hy78⟩) (KEEP.out _ X7.out) ?rest78
        case hy78 => intro W hSW; (try dsimp only at hSW); obtain ⟨e0, e1, e2, e3, e4, e5, e6, e7, e8, e9, e10⟩ := hSW; go_simp <;> with_reducible rfl
        try simp only [Act.put, List.setIfInBounds_toArray, List.set_cons_zero, List.set_cons_succ]
        refine EG_take 52 (v := ?v79) (by simp only [List.getElem?_toArray, List.getElem?_cons_succ, List.getElem?_cons_zero]; rfl) (by kernel_rfl) (by kernel_rfl) (by decide) (fun _ _ _ h => h) (Or.inl ⟨by rfl, ?hy79⟩) (KEEP.out _ X7.out) ?rest79
        case hy79 => intro W hSW; (try dsimp only at hSW); obtain ⟨e0, e1, e2, e3, e4, e5, e6, e7, e8, e9, e10⟩ := hSW; go_simp <;> with_reducible rfl
        try simp only [Act.put, List.setIfInBounds_toArray, List.set_cons_zero, List.set_cons_succ]
        refine EG_take 53 (v := ?v80) (by simp only [List.getElem?_toArray, List.getElem?_cons_succ, List.getElem?_cons_zero]; rfl) (by kernel_rfl) (by kernel_rfl) (by decide) (fun _ _ _ h => h) (Or.inl ⟨by rfl, ?hy80⟩) (KEEP.out _ X7.out) ?rest80
        case hy80 => intro W hSW; (try dsimp only at hSW); obtain ⟨e0, e1, e2, e3, e4, e5, e6, e7, e8, e9, e10⟩ := hSW; go_simp <;> with_reducible rfl
        try simp only [Act.put, List.setIfInBounds_toArray, List.set_cons_zero, List.set_cons_succ]
        refine EG_take 54 (v := ?v81) (by simp only [List.getElem?_toArray, List.getElem?_cons_succ, List.getElem?_cons_zero]; rfl) (by kernel_rfl) (by kernel_rfl) (by decide) (fun _ _ _ h => h) (Or.inl ⟨by rfl, ?hy81⟩) (KEEP.out _ X7.out) ?rest81
        case hy81 => intro W hSW; (try dsimp only at hSW); obtain ⟨e0, e1, e2, e3, e4, e5, e6, e7, e8, e9, e10⟩ := hSW; go_simp <;> with_reducible rfl
        try simp only [Act.put, List.setIfInBounds_toArray, List.set_cons_zero, List.set_cons_succ]
        refine EG_take 55 (v := ?v82) (by simp only [List.getElem?_toArray, List.getElem?_cons_succ, List.getElem?_cons_zero]; rfl) (by kernel_rfl) (by kernel_rfl) (by decide) (fun _ _ _ h => h) (Or.inl ⟨by rfl, ?hy82⟩) (KEEP.out _ X7.out) ?rest82
        case hy82 => intro W hSW; (try dsimp only at hSW); obtain ⟨e0, e1, e2, e3, e4, e5, e6, e7, e8, e9, e10⟩ := hSW; go_simp <;> with_reducible rfl
        try simp only [Act.put, List.setIfInBounds_toArray, List.set_cons_zero, List.set_cons_succ]
        refine EG_take 56 (v := ?v83) (by simp only [List.getElem?_toArray, List.getElem?_cons_succ, List.getElem?_cons_zero]; rfl) (by kernel_rfl) (by kernel_rfl) (by decide) (fun _ _ _ h => h) (Or.inl ⟨by rfl, ?hy83⟩) (KEEP.out _ X7.out) ?rest83
        case hy83 => intro W hSW; (try dsimp only at hSW); obtain ⟨e0, e1, e2, e3, e4, e5, e6, e7, e8, e9, e10⟩ := hSW; go_simp <;> with_reducible rfl
        try simp only [Act.put, List.setIfInBounds_toArray, List.set_cons_zero, List.set_cons_succ]
        refine EG_one 57 (by kernel_rfl) (by simp only [List.getElem?_toArray, List.getElem?_cons_succ, List.getElem?_cons_zero]; rfl) (by decide) ?_
        intro K hK0
        have hK := hid hK0
        clear hK0
        go_simp
        refine (has_abs (AB.out.ext X7.out) nm m.a.type).mono ?_
        rintro e w8 ⟨rfl, x8⟩
        have X8 : Hid (Ext wr w8) := hid (ext_trans X7.out x8)
        clear x8
        go_simp
        refine hK.out _ _ (KEEP.out _ X8.out) ?_
        clear hK K
        try simp only [Act.put, List.setIfInBounds_toArray, List.set_cons_zero, List.set_cons_succ]
        refine EG_end (by kernel_rfl) (by simp only [List.getElem?_toArray, List.getElem?_cons_succ, List.getElem?_cons_zero]; rfl) ?_
        intro K hK0
        have hK := hid hK0
        clear hK0
        go_simp
        refine hK.out _ _ ?_
        clear hK K
        refine NoPanic.normal ?_
        have REL : NnRel wp (.int .i64 ((k : Int) + 1)) w8 := ⟨k + 1, hlt, by go_num, ext_trans HX.out X8.out⟩
        have REL := hid REL
        go_wp2_with fail
        go_roundw
        case rel => exact REL.out
        case measure => simp [intOf]; omega
      · obtain rfl : k = 2 := by omega
        go_wp2_with fail
        refine (awake_yes _).mono ?_
        rintro e w2 ⟨rfl, x2⟩
        go_wp2_with fail
        go_ret
        exact ⟨rfl, ext_trans XP.out (ext_trans hx x2)⟩
end Go.Proofs.Ytcddfenhkljpeaa

import Derived.Test.YtcddfenhkljpeaaChcBd
/- Layer 23: the document's put. (Printed by gen_chcbe.py.) -/
namespace Go.Proofs.Ytcddfenhkljpeaa
open Go.BK Go.BK.CH Go.BK.NM Go.RowKit Go.Maps
set_option linter.unusedVariables false
set_option linter.unusedSimpArgs false
theorem pass5 {G : Prop} {P : Nat → Option Addr → Nat → Nat → World → Prop} (H : Nat → Option Addr → Nat → Nat → World → Prop) (key : ∀ q a d s w, H q a d s w → P q a d s w) (main : (∀ q a d s w, H q a d s w → P q a d s w) → G) : G := main key
theorem lower_lower (l : List UInt8) : lower (lower l) = lower l := by
  unfold lower
  rw [List.map_map]
  apply List.map_congr_left
  intro c _
  show lowB (lowB c) = lowB c
  by_cases h : 65 ≤ c.toNat ∧ c.toNat ≤ 90
  · have h1 := low_up h
    exact low_no (by omega)
  · rw [low_no h, low_no h]
def dropT (T : List TRow) (o : Option Nat) : List TRow := match o with | some i => T.take i ++ T.drop (i + 1) | none => T
def putT (most : Int) (T : List TRow) (r : TRow) : List TRow :=
  if most < ((dropT T (idxT T r.e.n r.e.k) ++ [r]).length : Int) then (dropT T (idxT T r.e.n r.e.k) ++ [r]).tail else dropT T (idxT T r.e.n r.e.k) ++ [r]
theorem idxT_cases (T : List TRow) (n : List UInt8) (k : Int) : (idxT T n k = none ∧ ∀ t ∈ T, ¬ t.e.is n k) ∨ ∃ i, i < T.length ∧ idxT T n k = some i ∧ (T.getD i tr0).e.is n k := by
  unfold idxT
  cases h : T.findIdx? (hitT n k) with
  | none =>
    left
    refine ⟨rfl, fun t ht => ?_⟩
    have := (List.findIdx?_eq_none_iff.1 h) t ht
    unfold hitT at this
    simpa [Ent.is] using this
  | some i =>
    right
    obtain ⟨hi, h1, _⟩ := List.findIdx?_eq_some_iff_getElem.1 h
    refine ⟨i, hi, rfl, ?_⟩
    rw [show T.getD i tr0 = T[i] from by simp [List.getD, hi]]
    unfold hitT at h1
    simpa [Ent.is] using h1
theorem dropT_sub (T : List TRow) (o : Option Nat) : ∀ t ∈ dropT T o, t ∈ T := by
  intro t ht
  unfold dropT at ht
  split at ht
  · rcases List.mem_append.1 ht with h | h
    · exact List.mem_of_mem_take h
    · exact List.mem_of_mem_drop h
  · exact ht
theorem dropT_len (T : List TRow) (o : Option Nat) : (dropT T o).length ≤ T.length := by
  unfold dropT
  split
  · rw [List.length_append, List.length_take, List.length_drop]; omega
  · exact Nat.le_refl _
/-- Out by place is out by key. -/
theorem dropT_ent {T : List TRow} (hd : DiffE (T.map (·.e))) (n : List UInt8) (k : Int) : (dropT T (idxT T n k)).map (·.e) = outE (T.map (·.e)) n k := by
  rcases idxT_cases T n k with ⟨h1, h2⟩ | ⟨i, hi, h1, h2⟩
  · rw [h1]
    unfold dropT
    simp only
    rw [outE_none]
    intro e he
    obtain ⟨t, ht, rfl⟩ := List.mem_map.1 he
    exact h2 t ht
  · rw [h1]
    unfold dropT
    simp only
    have e1 : T.getD i tr0 = T[i] := by simp [List.getD, hi]
    rw [e1] at h2
    have es : T = T.take i ++ T[i] :: T.drop (i + 1) := by rw [List.getElem_cons_drop, List.take_append_drop]
    rw [es] at hd
    rw [List.map_append, List.map_cons] at hd
    unfold DiffE at hd
    rw [List.pairwise_append, List.pairwise_cons] at hd
    have e2 : outE (T.map (·.e)) n k = outE ((T.take i).map (·.e) ++ T[i].e :: (T.drop (i + 1)).map (·.e)) n k := by
      conv => lhs; rw [es]
      rw [List.map_append, List.map_cons]
    rw [e2]
    unfold outE
    rw [List.filter_append, List.filter_cons]
    have f1 : ((T.take i).map (·.e)).filter (fun e => !decide (e.is n k)) = (T.take i).map (·.e) := outE_none (fun e he hk => hd.2.2 e he T[i].e (by simp) ⟨hk.1.trans h2.1.symm, hk.2.trans h2.2.symm⟩)
    have f2 : ((T.drop (i + 1)).map (·.e)).filter (fun e => !decide (e.is n k)) = (T.drop (i + 1)).map (·.e) := outE_none (fun e he hk => hd.2.1.1 e he ⟨h2.1.trans hk.1.symm, h2.2.trans hk.2.symm⟩)
    rw [f1, f2, List.map_append]
    simp [h2]
theorem putT_ent {T : List TRow} (hd : DiffE (T.map (·.e))) (most : Int) (r : TRow) : (putT most T r).map (·.e) = putE most (T.map (·.e)) r.e := by
  have e : (dropT T (idxT T r.e.n r.e.k) ++ [r]).map (·.e) = outE (T.map (·.e)) r.e.n r.e.k ++ [r.e] := by rw [List.map_append, dropT_ent hd]; rfl
  unfold putT putE
  rw [← e, List.length_map]
  split
  · rw [List.map_tail]
  · rfl
theorem putT_no {most : Int} {T D : List TRow} {r : TRow} {o : Option Nat} (h : idxT T r.e.n r.e.k = o) (hD : D = dropT T o) (hq : ¬ most < ((D ++ [r]).length : Int)) : putT most T r = D ++ [r] := by
  unfold putT
  rw [h, ← hD, if_neg hq]
theorem putT_yes {most : Int} {T D : List TRow} {r : TRow} {o : Option Nat} (h : idxT T r.e.n r.e.k = o) (hD : D = dropT T o) (hq : most < ((D ++ [r]).length : Int)) : putT most T r = (D ++ [r]).tail := by
  unfold putT
  rw [h, ← hD, if_pos hq]
theorem rdT_one {w : World} {gs : Nat} {t : TypeId} {r : TRow} (b : Blk w gs t (cellsT r).toArray) : RdG w 10 (some ⟨gs, 0, none⟩) 1 1 (cellsT r) := by
  refine ⟨rfl, Nat.le_refl _, by unfold maxLen; omega, fun _ => ⟨gs, 0, rfl, b.lt, fun j u hj => ?_⟩⟩
  have := b.cell j
  rw [Nat.zero_add, this, List.getElem?_toArray]
  exact hj
section
variable {w w' : World} {g : Nat} {most now : Int} {A : Option Addr} {c : Nat} {T : List TRow}
theorem rout0 (h : RefC w g most now A c T) (h0 : 0 < T.length) (hT : T.length ≤ 5000) :
    Calls Try.prog 51 #[pt g, .int .i64 0] w fun e w' => OutD w w' g most now T.tail e := by
  have := rout h h0 hT
  simpa using this
set_option maxHeartbeats 4000000 in
set_option maxRecDepth 100000 in
theorem rput (h : RefC w g most now A c T) {r : TRow} (hr : RdG w 1 r.A (setOf r.e.x).data.length r.c (tvs (setOf r.e.x).data)) (hrn : 0 < (setOf r.e.x).data.length → blk r.A ≠ some g) (hlow : lower r.e.n = r.e.n) (hn : r.e.n.length ≤ 2000000) (hT : T.length ≤ 4096) (hm : 1 ≤ most ∧ most ≤ 4096) :
    Calls Try.prog 52 #[pt g, .agg (cellsT r).toArray] w fun e w' => OutD w w' g most now (putT most T r) e := by
  obtain ⟨rn, hrn0⟩ : ∃ rn, str r.e.n = rn := ⟨_, rfl⟩
  obtain ⟨sn, hsn⟩ : ∃ sn, str (setOf r.e.x).nm = sn := ⟨_, rfl⟩
  obtain ⟨sl, hsl⟩ : ∃ sl, (setOf r.e.x).data.length = sl := ⟨_, rfl⟩
  have e1 : (cellsT r).toArray = #[.string rn, .int .i64 r.e.k, .int .i64 r.e.x.till, .bool (isOf r.e.x), .string sn, .int .i64 (setOf r.e.x).ty, .int .i64 (setOf r.e.x).cl, .int .i64 (setOf r.e.x).ttl, .slice r.A sl r.c, .int .i64 (rankOf r.e.x)] := by unfold cellsT; rw [hrn0, hsn, hsl]
  rw [e1]
  have xx := ext_alloc w (.cells #[.string rn, .int .i64 r.e.k, .int .i64 r.e.x.till, .bool (isOf r.e.x), .string sn, .int .i64 (setOf r.e.x).ty, .int .i64 (setOf r.e.x).cl, .int .i64 (setOf r.e.x).ttl, .slice r.A sl r.c, .int .i64 (rankOf r.e.x)] 100)
  have bx := Blk.new w 100 #[.string rn, .int .i64 r.e.k, .int .i64 r.e.x.till, .bool (isOf r.e.x), .string sn, .int .i64 (setOf r.e.x).ty, .int .i64 (setOf r.e.x).cl, .int .i64 (setOf r.e.x).ttl, .slice r.A sl r.c, .int .i64 (rankOf r.e.x)]
  obtain ⟨wx, hwx⟩ : ∃ wx, w.alloc (.cells #[.string rn, .int .i64 r.e.k, .int .i64 r.e.x.till, .bool (isOf r.e.x), .string sn, .int .i64 (setOf r.e.x).ty, .int .i64 (setOf r.e.x).cl, .int .i64 (setOf r.e.x).ttl, .slice r.A sl r.c, .int .i64 (rankOf r.e.x)] 100) = wx := ⟨_, rfl⟩
  obtain ⟨gx, hgx⟩ : ∃ gx, w.heap.size = gx := ⟨_, rfl⟩
  rw [hwx] at xx bx
  rw [hgx] at bx
  have hgg : g ≠ gx := by have := h.b.lt; omega
  have AT := at_in (h.ext xx) (n := r.e.n) (kind := r.e.k) hn
  rw [hlow, hrn0] at AT
  obtain ⟨o, ho⟩ : ∃ o, idxT T r.e.n r.e.k = o := ⟨_, rfl⟩
  have hcs := idxT_cases T r.e.n r.e.k
  rw [ho] at AT hcs
  simp only [pt] at AT ⊢
  have AT := hid AT
  have H := hid h
  have HR := hid hr
  have HRN := hid hrn
  have XX := hid xx
  have BX := hid bx
  have HWX := hid hwx
  have HGX := hid hgx
  have HO := hid ho
  have HE1 := hid e1
  have x0 := bx.cell 0
  have x1 := bx.cell 1
  simp at x0 x1
  clear h hr hrn xx bx hwx hgx ho e1 hrn0 hsn hsl hlow
  go_enter Try.func52, Try.ntmps52
  go_upto_region 1 with (fail)
  rw [HWX.out, HGX.out]
  go_wp2_with fail
  refine AT.out.mono ?_
  rintro e w2 ⟨rfl, y2⟩
  have H2 := hid (H.out.ext (ext_trans XX.out y2))
  have B2 := hid (BX.out.ext y2)
  have X2 := hid (ext_trans XX.out y2)
  clear y2 x0 x1 AT
  rcases hcs with ⟨rfl, _⟩ | ⟨i, hi, rfl, _⟩
  · obtain ⟨D, hD0⟩ : ∃ D, D = T := ⟨_, rfl⟩
    obtain ⟨w3, hw3⟩ : ∃ w3, w3 = w2 := ⟨_, rfl⟩
    subst hw3
    have H3 : Hid (RefC w3 g most now A c D) := hid (by rw [hD0]; exact H2.out)
    have B3 := B2
    have Z3 : Hid (Shy (fun k => k = g) w w3) := hid (Shy.of_ext X2.out)
    have HD : Hid (D.length ≤ T.length ∧ D = dropT T none) := hid ⟨by rw [hD0]; exact Nat.le_refl _, hD0⟩
    obtain ⟨A3, hA3⟩ : ∃ A3, A3 = A := ⟨_, rfl⟩
    subst hA3
    obtain ⟨c3, hc3⟩ : ∃ c3, c3 = c := ⟨_, rfl⟩
    subst hc3
    clear hD0 H2 B2 X2
    simp only [idxV]
    obtain ⟨nd, hnd⟩ : ∃ nd, D.length = nd := ⟨_, rfl⟩
    have hnd9 : nd ≤ 4096 := by have := HD.out.1; omega
    have KEEP : Hid (∀ W, Ext w3 W → W.cell? ⟨g, 1, none⟩ = some (.slice A3 nd c3) ∧ W.cell? ⟨gx, 0, none⟩ = some (.string rn) ∧ W.cell? ⟨gx, 1, none⟩ = some (.int .i64 r.e.k) ∧ W.cell? ⟨gx, 2, none⟩ = some (.int .i64 r.e.x.till) ∧ W.cell? ⟨gx, 3, none⟩ = some (.bool (isOf r.e.x)) ∧ W.cell? ⟨gx, 4, none⟩ = some (.string sn) ∧ W.cell? ⟨gx, 5, none⟩ = some (.int .i64 (setOf r.e.x).ty) ∧ W.cell? ⟨gx, 6, none⟩ = some (.int .i64 (setOf r.e.x).cl) ∧ W.cell? ⟨gx, 7, none⟩ = some (.int .i64 (setOf r.e.x).ttl) ∧ W.cell? ⟨gx, 8, none⟩ = some (.slice r.A sl r.c) ∧ W.cell? ⟨gx, 9, none⟩ = some (.int .i64 (rankOf r.e.x))) := hid (fun W y => by
      have b := B3.out.ext y
      refine ⟨?_, b.cell 0, b.cell 1, b.cell 2, b.cell 3, b.cell 4, b.cell 5, b.cell 6, b.cell 7, b.cell 8, b.cell 9⟩
      have := (H3.out.b.ext y).cell 1
      rw [hnd] at this
      exact this)
    have FR : Hid (∀ W, Ext w3 W → ∀ q, W.frozen? ⟨g, q, none⟩ = false) := hid (fun W y => (H3.out.b.ext y).frozen)
    have RD3 := H3.out.r
    rw [hnd] at RD3
    have RD3 := hid RD3
    have HND := hid hnd
    obtain ⟨i0, hi0, hz0, hz1, hz2⟩ := info_partsT info_thing
    clear hnd
    go_upto_region 4 with (fail)
    refine wp_region_noPanic ?_
    refine region_E (S := fun W => W.cell? ⟨g, 1, none⟩ = some (.slice A3 nd c3) ∧ W.cell? ⟨gx, 0, none⟩ = some (.string rn) ∧ W.cell? ⟨gx, 1, none⟩ = some (.int .i64 r.e.k) ∧ W.cell? ⟨gx, 2, none⟩ = some (.int .i64 r.e.x.till) ∧ W.cell? ⟨gx, 3, none⟩ = some (.bool (isOf r.e.x)) ∧ W.cell? ⟨gx, 4, none⟩ = some (.string sn) ∧ W.cell? ⟨gx, 5, none⟩ = some (.int .i64 (setOf r.e.x).ty) ∧ W.cell? ⟨gx, 6, none⟩ = some (.int .i64 (setOf r.e.x).cl) ∧ W.cell? ⟨gx, 7, none⟩ = some (.int .i64 (setOf r.e.x).ttl) ∧ W.cell? ⟨gx, 8, none⟩ = some (.slice r.A sl r.c) ∧ W.cell? ⟨gx, 9, none⟩ = some (.int .i64 (rankOf r.e.x))) 12 (by kernel_rfl) (by kernel_rfl) (by kernel_rfl) ?_
    refine EG_take 0 (v := ?v1) (by simp only [lga, lgb, lgc]; rfl) (by kernel_rfl) (by kernel_rfl) (by decide) (fun _ _ _ h => h) (Or.inl ⟨by rfl, ?hy1⟩) (KEEP.out _ (ext_drew _)) ?rest1
    case hy1 => intro W hSW; (try dsimp only at hSW); obtain ⟨e0, e1, e2, e3, e4, e5, e6, e7, e8, e9, e10⟩ := hSW; go_simp <;> with_reducible rfl
    try simp only [Act.put, lsa, lsb, lsc]
    refine EG_take 2 (v := ?v2) (by simp only [lga, lgb, lgc]; rfl) (by kernel_rfl) (by kernel_rfl) (by decide) (fun _ _ _ h => h) (Or.inl ⟨by rfl, ?hy2⟩) (KEEP.out _ (ext_drew _)) ?rest2
    case hy2 => intro W hSW; (try dsimp only at hSW); obtain ⟨e0, e1, e2, e3, e4, e5, e6, e7, e8, e9, e10⟩ := hSW; go_simp <;> with_reducible rfl
    try simp only [Act.put, lsa, lsb, lsc]
    refine EG_take 3 (v := ?v3) (by simp only [lga, lgb, lgc]; rfl) (by kernel_rfl) (by kernel_rfl) (by decide) (fun _ _ _ h => h) (Or.inl ⟨by rfl, ?hy3⟩) (KEEP.out _ (ext_drew _)) ?rest3
    case hy3 => intro W hSW; (try dsimp only at hSW); obtain ⟨e0, e1, e2, e3, e4, e5, e6, e7, e8, e9, e10⟩ := hSW; go_simp <;> with_reducible rfl
    try simp only [Act.put, lsa, lsb, lsc]
    refine EG_take 4 (v := ?v4) (by simp only [lga, lgb, lgc]; rfl) (by kernel_rfl) (by kernel_rfl) (by decide) (fun _ _ _ h => h) (Or.inl ⟨by rfl, ?hy4⟩) (KEEP.out _ (ext_drew _)) ?rest4
    case hy4 => intro W hSW; (try dsimp only at hSW); obtain ⟨e0, e1, e2, e3, e4, e5, e6, e7, e8, e9, e10⟩ := hSW; go_simp <;> with_reducible rfl
    try simp only [Act.put, lsa, lsb, lsc]
    refine EG_take 5 (v := ?v5) (by simp only [lga, lgb, lgc]; rfl) (by kernel_rfl) (by kernel_rfl) (by decide) (fun _ _ _ h => h) (Or.inl ⟨by rfl, ?hy5⟩) (KEEP.out _ (ext_drew _)) ?rest5
    case hy5 => intro W hSW; (try dsimp only at hSW); obtain ⟨e0, e1, e2, e3, e4, e5, e6, e7, e8, e9, e10⟩ := hSW; go_simp <;> with_reducible rfl
    try simp only [Act.put, lsa, lsb, lsc]
    refine EG_take 7 (v := ?v6) (by simp only [lga, lgb, lgc]; rfl) (by kernel_rfl) (by kernel_rfl) (by decide) (fun _ _ _ h => h) (Or.inl ⟨by rfl, ?hy6⟩) (KEEP.out _ (ext_drew _)) ?rest6
    case hy6 => intro W hSW; (try dsimp only at hSW); obtain ⟨e0, e1, e2, e3, e4, e5, e6, e7, e8, e9, e10⟩ := hSW; go_simp <;> with_reducible rfl
    try simp only [Act.put, lsa, lsb, lsc]
    have xd := ext_drew w3
    obtain ⟨wd, hwd⟩ : ∃ wd, w3.drew = wd := ⟨_, rfl⟩
    rw [hwd] at xd ⊢
    clear hwd
    apply pass5 (fun gq A1 d1 gs w => Ext w3 w ∧ OwnG okC w w3.heap.size 100 10 A1 nd d1 (cellsTM D) ∧ Blk w gs 100 #[.string rn, .int .i64 r.e.k, .int .i64 r.e.x.till, .bool (isOf r.e.x), .string sn, .int .i64 (setOf r.e.x).ty, .int .i64 (setOf r.e.x).cl, .int .i64 (setOf r.e.x).ttl, .slice r.A sl r.c, .int .i64 (rankOf r.e.x)])
    case main =>
      intro key0
      refine EG_two 1 8 (by kernel_rfl) (by simp only [lga, lgb, lgc]; rfl) (by simp only [lga, lgb, lgc]; rfl) (by decide) (by decide) ?h1q ?h2q
      case h1q =>
        intro K hK0
        have hK := hid hK0
        clear hK0
        go_simp
        have xq : Ext w3 (wd.alloc (.cells #[] 100)) := ext_trans xd (ext_alloc _ _)
        have dst : OwnG okC (wd.alloc (.cells #[] 100)) w3.heap.size 100 10 (some ⟨wd.heap.size, 0, none⟩) 0 0 [] := .inr ⟨wd.heap.size, [], rfl, xd.size, heap_alloc_new wd _, by simp, Nat.le_refl _, by simp [maxLen], by simp, by simp⟩
        obtain ⟨wq, hwq⟩ : ∃ wq, wd.alloc (.cells #[] 100) = wq := ⟨_, rfl⟩
        obtain ⟨gq, hgq⟩ : ∃ gq, wd.heap.size = gq := ⟨_, rfl⟩
        have HGQ := hid hgq
        have HWQ := hid hwq
        rw [hwq] at xq dst
        rw [hgq] at dst
        rw [hwq, hgq]
        clear hwq hgq
        refine hK.out _ _ (KEEP.out _ xq) ?_
        clear hK K
        try simp only [Act.put, lsa, lsb, lsc]
        refine EG_two 6 8 (by kernel_rfl) (by simp only [lga, lgb, lgc]; rfl) (by simp only [lga, lgb, lgc]; rfl) (by decide) (by decide) ?h3q ?h4q
        case h3q =>
          intro K hK0
          have hK := hid hK0
          clear hK0
          refine step_append_g (ok := okC) rfl (.tmp 17) (.tmp 21) 56 rfl w3.heap.size 100 i0 (.agg #[.string ⟨#[]⟩, .int .i64 0, .int .i64 0, .bool false, .string ⟨#[]⟩, .int .i64 0, .int .i64 0, .int .i64 0, .slice none 0 0, .int .i64 0]) 10 112 Try.underlying56 hi0 hz0 hz1 hz2 rfl (by decide) zeroT (fun _ h => h) (by rfl) dst (by rfl) (RD3.out.ext xq) (okC_all _) (by omega) (by unfold maxLen; omega) xq.size ?_
          intro A1 d1 w5 o1 g1 n1
          have x5 : Ext w3 w5 := below_of_grown xq xq.size g1 (fun q hq => (dst.lt q hq).1)
          rw [show 0 + nd = nd from by omega, List.nil_append] at o1
          rw [show 0 + nd = nd from by omega]
          refine hK.out _ _ (KEEP.out _ x5) ?_
          clear hK K
          try simp only [Act.put, lsa, lsb, lsc]
          refine EG_one 8 (by kernel_rfl) (by simp only [lga, lgb, lgc]; rfl) (by decide) ?_
          intro K hK0
          have hK := hid hK0
          clear hK0
          go_simp
          have xLa : Ext w3 (w5.alloc (.cells #[.string rn, .int .i64 r.e.k, .int .i64 r.e.x.till, .bool (isOf r.e.x), .string sn, .int .i64 (setOf r.e.x).ty, .int .i64 (setOf r.e.x).cl, .int .i64 (setOf r.e.x).ttl, .slice r.A sl r.c, .int .i64 (rankOf r.e.x)] 100)) := ext_trans x5 (ext_alloc _ _)
          have bLa := Blk.new w5 100 #[.string rn, .int .i64 r.e.k, .int .i64 r.e.x.till, .bool (isOf r.e.x), .string sn, .int .i64 (setOf r.e.x).ty, .int .i64 (setOf r.e.x).cl, .int .i64 (setOf r.e.x).ttl, .slice r.A sl r.c, .int .i64 (rankOf r.e.x)]
          have eLa := ext_alloc w5 (.cells #[.string rn, .int .i64 r.e.k, .int .i64 r.e.x.till, .bool (isOf r.e.x), .string sn, .int .i64 (setOf r.e.x).ty, .int .i64 (setOf r.e.x).cl, .int .i64 (setOf r.e.x).ttl, .slice r.A sl r.c, .int .i64 (rankOf r.e.x)] 100)
          obtain ⟨wla, hwla⟩ : ∃ wl, w5.alloc (.cells #[.string rn, .int .i64 r.e.k, .int .i64 r.e.x.till, .bool (isOf r.e.x), .string sn, .int .i64 (setOf r.e.x).ty, .int .i64 (setOf r.e.x).cl, .int .i64 (setOf r.e.x).ttl, .slice r.A sl r.c, .int .i64 (rankOf r.e.x)] 100) = wl := ⟨_, rfl⟩
          obtain ⟨gla, hgla⟩ : ∃ gl, w5.heap.size = gl := ⟨_, rfl⟩
          rw [hwla] at xLa bLa eLa
          rw [hgla] at bLa
          rw [hwla, hgla]
          have HGLa := hid hgla
          clear hwla hgla
          refine hK.out _ _ (KEEP.out _ xLa) ?_
          clear hK K
          try simp only [Act.put, lsa, lsb, lsc]
          exact key0 gq _ _ _ _ ⟨xLa, o1.ext eLa, bLa⟩
        case h4q =>
          intro K hK0
          have hK := hid hK0
          clear hK0
          go_simp
          have xLb : Ext w3 (wq.alloc (.cells #[.string rn, .int .i64 r.e.k, .int .i64 r.e.x.till, .bool (isOf r.e.x), .string sn, .int .i64 (setOf r.e.x).ty, .int .i64 (setOf r.e.x).cl, .int .i64 (setOf r.e.x).ttl, .slice r.A sl r.c, .int .i64 (rankOf r.e.x)] 100)) := ext_trans xq (ext_alloc _ _)
          have bLb := Blk.new wq 100 #[.string rn, .int .i64 r.e.k, .int .i64 r.e.x.till, .bool (isOf r.e.x), .string sn, .int .i64 (setOf r.e.x).ty, .int .i64 (setOf r.e.x).cl, .int .i64 (setOf r.e.x).ttl, .slice r.A sl r.c, .int .i64 (rankOf r.e.x)]
          have eLb := ext_alloc wq (.cells #[.string rn, .int .i64 r.e.k, .int .i64 r.e.x.till, .bool (isOf r.e.x), .string sn, .int .i64 (setOf r.e.x).ty, .int .i64 (setOf r.e.x).cl, .int .i64 (setOf r.e.x).ttl, .slice r.A sl r.c, .int .i64 (rankOf r.e.x)] 100)
          obtain ⟨wlb, hwlb⟩ : ∃ wl, wq.alloc (.cells #[.string rn, .int .i64 r.e.k, .int .i64 r.e.x.till, .bool (isOf r.e.x), .string sn, .int .i64 (setOf r.e.x).ty, .int .i64 (setOf r.e.x).cl, .int .i64 (setOf r.e.x).ttl, .slice r.A sl r.c, .int .i64 (rankOf r.e.x)] 100) = wl := ⟨_, rfl⟩
          obtain ⟨glb, hglb⟩ : ∃ gl, wq.heap.size = gl := ⟨_, rfl⟩
          rw [hwlb] at xLb bLb eLb
          rw [hglb] at bLb
          rw [hwlb, hglb]
          have HGLb := hid hglb
          clear hwlb hglb
          refine hK.out _ _ (KEEP.out _ xLb) ?_
          clear hK K
          try simp only [Act.put, lsa, lsb, lsc]
          refine EG_one 6 (by kernel_rfl) (by simp only [lga, lgb, lgc]; rfl) (by decide) ?_
          intro K hK0
          have hK := hid hK0
          clear hK0
          refine step_append_g (ok := okC) rfl (.tmp 17) (.tmp 21) 56 rfl w3.heap.size 100 i0 (.agg #[.string ⟨#[]⟩, .int .i64 0, .int .i64 0, .bool false, .string ⟨#[]⟩, .int .i64 0, .int .i64 0, .int .i64 0, .slice none 0 0, .int .i64 0]) 10 112 Try.underlying56 hi0 hz0 hz1 hz2 rfl (by decide) zeroT (fun _ h => h) (by rfl) (dst.ext eLb) (by rfl) (RD3.out.ext xLb) (okC_all _) (by omega) (by unfold maxLen; omega) xLb.size ?_
          intro A1 d1 w5 o1 g1 n1
          have x5 : Ext w3 w5 := below_of_grown xLb xLb.size g1 (fun q hq => ((dst.ext eLb).lt q hq).1)
          rw [show 0 + nd = nd from by omega, List.nil_append] at o1
          rw [show 0 + nd = nd from by omega]
          have bL5 := bLb.grown g1 (fun e => by have h1 := (dst.lt _ e.symm).2; have h2 := HGLb.out; omega)
          refine hK.out _ _ (KEEP.out _ x5) ?_
          clear hK K
          try simp only [Act.put, lsa, lsb, lsc]
          exact key0 gq _ _ _ _ ⟨x5, o1, bL5⟩
      case h2q =>
        intro K hK0
        have hK := hid hK0
        clear hK0
        go_simp
        have xLc : Ext w3 (wd.alloc (.cells #[.string rn, .int .i64 r.e.k, .int .i64 r.e.x.till, .bool (isOf r.e.x), .string sn, .int .i64 (setOf r.e.x).ty, .int .i64 (setOf r.e.x).cl, .int .i64 (setOf r.e.x).ttl, .slice r.A sl r.c, .int .i64 (rankOf r.e.x)] 100)) := ext_trans xd (ext_alloc _ _)
        have bLc := Blk.new wd 100 #[.string rn, .int .i64 r.e.k, .int .i64 r.e.x.till, .bool (isOf r.e.x), .string sn, .int .i64 (setOf r.e.x).ty, .int .i64 (setOf r.e.x).cl, .int .i64 (setOf r.e.x).ttl, .slice r.A sl r.c, .int .i64 (rankOf r.e.x)]
        have eLc := ext_alloc wd (.cells #[.string rn, .int .i64 r.e.k, .int .i64 r.e.x.till, .bool (isOf r.e.x), .string sn, .int .i64 (setOf r.e.x).ty, .int .i64 (setOf r.e.x).cl, .int .i64 (setOf r.e.x).ttl, .slice r.A sl r.c, .int .i64 (rankOf r.e.x)] 100)
        obtain ⟨wlc, hwlc⟩ : ∃ wl, wd.alloc (.cells #[.string rn, .int .i64 r.e.k, .int .i64 r.e.x.till, .bool (isOf r.e.x), .string sn, .int .i64 (setOf r.e.x).ty, .int .i64 (setOf r.e.x).cl, .int .i64 (setOf r.e.x).ttl, .slice r.A sl r.c, .int .i64 (rankOf r.e.x)] 100) = wl := ⟨_, rfl⟩
        obtain ⟨glc, hglc⟩ : ∃ gl, wd.heap.size = gl := ⟨_, rfl⟩
        rw [hwlc] at xLc bLc eLc
        rw [hglc] at bLc
        rw [hwlc, hglc]
        have HGLc := hid hglc
        clear hwlc hglc
        refine hK.out _ _ (KEEP.out _ xLc) ?_
        clear hK K
        try simp only [Act.put, lsa, lsb, lsc]
        refine EG_one 1 (by kernel_rfl) (by simp only [lga, lgb, lgc]; rfl) (by decide) ?_
        intro K hK0
        have hK := hid hK0
        clear hK0
        go_simp
        have xq : Ext w3 (wlc.alloc (.cells #[] 100)) := ext_trans xLc (ext_alloc _ _)
        have dst : OwnG okC (wlc.alloc (.cells #[] 100)) w3.heap.size 100 10 (some ⟨wlc.heap.size, 0, none⟩) 0 0 [] := .inr ⟨wlc.heap.size, [], rfl, xLc.size, heap_alloc_new wlc _, by simp, Nat.le_refl _, by simp [maxLen], by simp, by simp⟩
        obtain ⟨wq, hwq⟩ : ∃ wq, wlc.alloc (.cells #[] 100) = wq := ⟨_, rfl⟩
        obtain ⟨gq, hgq⟩ : ∃ gq, wlc.heap.size = gq := ⟨_, rfl⟩
        have HGQ := hid hgq
        have HWQ := hid hwq
        rw [hwq] at xq dst
        rw [hgq] at dst
        rw [hwq, hgq]
        have bq := bLc.ext (show Ext wlc wq from by rw [← hwq]; exact ext_alloc _ _)
        clear hwq hgq
        refine hK.out _ _ (KEEP.out _ xq) ?_
        clear hK K
        try simp only [Act.put, lsa, lsb, lsc]
        refine EG_one 6 (by kernel_rfl) (by simp only [lga, lgb, lgc]; rfl) (by decide) ?_
        intro K hK0
        have hK := hid hK0
        clear hK0
        refine step_append_g (ok := okC) rfl (.tmp 17) (.tmp 21) 56 rfl w3.heap.size 100 i0 (.agg #[.string ⟨#[]⟩, .int .i64 0, .int .i64 0, .bool false, .string ⟨#[]⟩, .int .i64 0, .int .i64 0, .int .i64 0, .slice none 0 0, .int .i64 0]) 10 112 Try.underlying56 hi0 hz0 hz1 hz2 rfl (by decide) zeroT (fun _ h => h) (by rfl) dst (by rfl) (RD3.out.ext xq) (okC_all _) (by omega) (by unfold maxLen; omega) xq.size ?_
        intro A1 d1 w5 o1 g1 n1
        have x5 : Ext w3 w5 := below_of_grown xq xq.size g1 (fun q hq => (dst.lt q hq).1)
        rw [show 0 + nd = nd from by omega, List.nil_append] at o1
        rw [show 0 + nd = nd from by omega]
        have bL5 := bq.grown g1 (fun e => by have h1 : glc = gq := Option.some.inj e; have h2 := HGQ.out; have h3 := bLc.lt; omega)
        refine hK.out _ _ (KEEP.out _ x5) ?_
        clear hK K
        try simp only [Act.put, lsa, lsb, lsc]
        exact key0 gq _ _ _ _ ⟨x5, o1, bL5⟩
    case key =>
      rintro gq A1 d1 gs w5 ⟨x5, o1, b5⟩
      have X5 := hid x5
      have O1 := hid o1
      have R5 : Hid (RdG w5 10 (some ⟨gs, 0, none⟩) 1 1 (cellsT r)) := hid (rdT_one (by rw [HE1.out]; exact b5))
      clear x5 o1 b5
      refine EG_one 9 (by kernel_rfl) (by simp only [lga, lgb, lgc]; rfl) (by decide) ?_
      intro K hK0
      have hK := hid hK0
      clear hK0
      refine step_append_g (ok := okC) rfl (.tmp 22) (.tmp 24) 56 rfl w3.heap.size 100 i0 (.agg #[.string ⟨#[]⟩, .int .i64 0, .int .i64 0, .bool false, .string ⟨#[]⟩, .int .i64 0, .int .i64 0, .int .i64 0, .slice none 0 0, .int .i64 0]) 10 112 Try.underlying56 hi0 hz0 hz1 hz2 rfl (by decide) zeroT (fun _ h => h) (by rfl) O1.out (by rfl) R5.out (okC_cells r) (by omega) (by unfold maxLen; omega) X5.out.size ?_
      intro A2 d2 w6 o2 g2 n2
      have X6 : Hid (Ext w3 w6) := hid (below_of_grown X5.out X5.out.size g2 (fun q hq => (O1.out.lt q hq).1))
      obtain ⟨n1, hn1⟩ : ∃ n1, nd + 1 = n1 := ⟨_, rfl⟩
      rw [hn1] at o2 ⊢
      have O2 := hid o2
      have HN1 := hid hn1
      clear g2 n2 o2 hn1
      refine hK.out _ _ (KEEP.out _ X6.out) ?_
      clear hK K
      try simp only [Act.put, lsa, lsb, lsc]
      refine EG_take 10 (v := ?v7) (by simp only [lga, lgb, lgc]; rfl) (by kernel_rfl) (by kernel_rfl) (by decide) (fun _ _ _ h => h) (Or.inl ⟨by rfl, ?hy7⟩) (KEEP.out _ X6.out) ?rest7
      case hy7 => intro W hSW; (try dsimp only at hSW); obtain ⟨e0, e1, e2, e3, e4, e5, e6, e7, e8, e9, e10⟩ := hSW; go_simp <;> with_reducible rfl
      try simp only [Act.put, lsa, lsb, lsc]
      refine EG_take 11 (v := ?v8) (by simp only [lga, lgb, lgc]; rfl) (by kernel_rfl) (by kernel_rfl) (by decide) (fun _ _ _ h => h) (Or.inl ⟨by rfl, ?hy8⟩) (KEEP.out _ X6.out) ?rest8
      case hy8 => intro W hSW; (try dsimp only at hSW); obtain ⟨e0, e1, e2, e3, e4, e5, e6, e7, e8, e9, e10⟩ := hSW; go_simp <;> with_reducible rfl
      try simp only [Act.put, lsa, lsb, lsc]
      refine EG_end (by kernel_rfl) (by simp only [lga, lgb, lgc]; rfl) ?_
      intro K hK0
      have hK := hid hK0
      clear hK0
      go_simp
      have e0 := (KEEP.out _ X6.out).1
      have ef := FR.out _ X6.out
      go_simp
      refine hK.out _ _ ?_
      clear hK K
      refine NoPanic.normal ?_
      have hlen : (D ++ [r]).length = n1 := by rw [List.length_append, HND.out]; exact HN1.out
      have an := H3.out.anew X6.out (A' := A2) (c' := d2) (T' := D ++ [r]) (by rw [hlen, cellsTM_app, show cellsTM [r] = cellsT r from by simp [cellsTM]]; exact O2.out) (fun t ht => by
        rcases List.mem_append.1 ht with h | h
        · exact ⟨H3.out.d t h, H3.out.ne.2 t h⟩
        · obtain rfl := List.mem_singleton.1 h
          exact ⟨rdG_off HR.out Z3.out (fun h0 k hk e => HRN.out h0 (by rw [hk, e])), HRN.out⟩)
      rw [hlen] at an
      obtain ⟨w7, hw7⟩ : ∃ w7, w6.setCell ⟨g, 1, none⟩ (.slice A2 n1 d2) = w7 := ⟨_, rfl⟩
      rw [hw7] at an ⊢
      have H7 := hid an.1
      have Z7 := hid (Z3.out.trans an.2 (fun k _ e => e))
      have HLEN := hid hlen
      have LT7 := hid O2.out.lt
      clear an hw7 hlen X6 O2 FR KEEP R5 O1 X5
      have b0 := H7.out.b.cell 0
      have b1 := H7.out.b.cell 1
      rw [HLEN.out] at b1
      simp at b0 b1
      have hcap := H7.out.r.cap
      rw [HLEN.out] at hcap
      have hcap2 : n1 ≤ 4097 := by have := HN1.out; omega
      clear hcap
      have KE : Hid (∀ W, Ext w7 W → W.cell? ⟨g, 0, none⟩ = some (.int .i64 most) ∧ W.cell? ⟨g, 1, none⟩ = some (.slice A2 n1 d2)) := hid (fun W y => ⟨(y.cell (p := ⟨g, 0, none⟩) H7.out.b.lt).trans b0, (y.cell (p := ⟨g, 1, none⟩) H7.out.b.lt).trans b1⟩)
      clear b0 b1
      go_upto_region 5 with (fail)
      refine wp_region_noPanic ?_
      refine region_E (S := fun W => W.cell? ⟨g, 0, none⟩ = some (.int .i64 most) ∧ W.cell? ⟨g, 1, none⟩ = some (.slice A2 n1 d2)) 9 (by kernel_rfl) (by kernel_rfl) (by kernel_rfl) ?_
      refine EG_take 0 (v := ?v9) (by simp only [lga, lgb, lgc]; rfl) (by kernel_rfl) (by kernel_rfl) (by decide) (fun _ _ _ h => h) (Or.inl ⟨by rfl, ?hy9⟩) (KE.out _ (ext_drew _)) ?rest9
      case hy9 => intro W hSW; (try dsimp only at hSW); obtain ⟨e0, e1⟩ := hSW; go_simp <;> with_reducible rfl
      try simp only [Act.put, lsa, lsb, lsc]
      refine EG_take 1 (v := ?v10) (by simp only [lga, lgb, lgc]; rfl) (by kernel_rfl) (by kernel_rfl) (by decide) (fun _ _ _ h => h) (Or.inl ⟨by rfl, ?hy10⟩) (KE.out _ (ext_drew _)) ?rest10
      case hy10 => intro W hSW; (try dsimp only at hSW); obtain ⟨e0, e1⟩ := hSW; go_simp <;> with_reducible rfl
      try simp only [Act.put, lsa, lsb, lsc]
      refine EG_take 2 (v := ?v11) (by simp only [lga, lgb, lgc]; rfl) (by kernel_rfl) (by kernel_rfl) (by decide) (fun _ _ _ h => h) (Or.inl ⟨by rfl, ?hy11⟩) (KE.out _ (ext_drew _)) ?rest11
      case hy11 => intro W hSW; (try dsimp only at hSW); obtain ⟨e0, e1⟩ := hSW; go_simp <;> with_reducible rfl
      try simp only [Act.put, lsa, lsb, lsc]
      refine EG_take 3 (v := ?v12) (by simp only [lga, lgb, lgc]; rfl) (by kernel_rfl) (by kernel_rfl) (by decide) (fun _ _ _ h => h) (Or.inl ⟨by rfl, ?hy12⟩) (KE.out _ (ext_drew _)) ?rest12
      case hy12 => intro W hSW; (try dsimp only at hSW); obtain ⟨e0, e1⟩ := hSW; go_simp <;> with_reducible rfl
      try simp only [Act.put, lsa, lsb, lsc]
      refine EG_take 4 (v := ?v13) (by simp only [lga, lgb, lgc]; rfl) (by kernel_rfl) (by kernel_rfl) (by decide) (fun _ _ _ h => h) (Or.inl ⟨by rfl, ?hy13⟩) (KE.out _ (ext_drew _)) ?rest13
      case hy13 => intro W hSW; (try dsimp only at hSW); obtain ⟨e0, e1⟩ := hSW; go_simp <;> with_reducible rfl
      try simp only [Act.put, lsa, lsb, lsc]
      refine EG_take 5 (v := ?v14) (by simp only [lga, lgb, lgc]; rfl) (by kernel_rfl) (by kernel_rfl) (by decide) (fun _ _ _ h => h) (Or.inl ⟨by rfl, ?hy14⟩) (KE.out _ (ext_drew _)) ?rest14
      case hy14 => intro W hSW; (try dsimp only at hSW); obtain ⟨e0, e1⟩ := hSW; go_simp <;> with_reducible rfl
      try simp only [Act.put, lsa, lsb, lsc]
      refine EG_take 6 (v := ?v15) (by simp only [lga, lgb, lgc]; rfl) (by kernel_rfl) (by kernel_rfl) (by decide) (fun _ _ _ h => h) (Or.inl ⟨by rfl, ?hy15⟩) (KE.out _ (ext_drew _)) ?rest15
      case hy15 => intro W hSW; (try dsimp only at hSW); obtain ⟨e0, e1⟩ := hSW; go_simp <;> with_reducible rfl
      try simp only [Act.put, lsa, lsb, lsc]
      refine EG_take 7 (v := ?v16) (by simp only [lga, lgb, lgc]; rfl) (by kernel_rfl) (by kernel_rfl) (by decide) (fun _ _ _ h => h) (Or.inl ⟨by rfl, ?hy16⟩) (KE.out _ (ext_drew _)) ?rest16
      case hy16 => intro W hSW; (try dsimp only at hSW); obtain ⟨e0, e1⟩ := hSW; go_simp <;> with_reducible rfl
      try simp only [Act.put, lsa, lsb, lsc]
      refine EG_take 8 (v := ?v17) (by simp only [lga, lgb, lgc]; rfl) (by kernel_rfl) (by kernel_rfl) (by decide) (fun _ _ _ h => h) (Or.inl ⟨by rfl, ?hy17⟩) (KE.out _ (ext_drew _)) ?rest17
      case hy17 => intro W hSW; (try dsimp only at hSW); obtain ⟨e0, e1⟩ := hSW; go_simp <;> with_reducible rfl
      try simp only [Act.put, lsa, lsb, lsc]
      refine EG_end (by kernel_rfl) (by simp only [lga, lgb, lgc]; rfl) ?_
      intro K hK0
      have hK := hid hK0
      clear hK0
      go_simp
      refine hK.out _ _ ?_
      clear hK K
      refine NoPanic.normal ?_
      by_cases hq : most < (n1 : Int)
      · go_wp2_with fail
        have H8 := H7.out.ext (ext_drew w7)
        obtain ⟨w8, hw8⟩ : ∃ w8, w7.drew = w8 := ⟨_, rfl⟩
        have Z8 := Z7.out.ext (ext_drew w7)
        rw [hw8] at H8 Z8 ⊢
        have h0 : 0 < (D ++ [r]).length := by rw [HLEN.out]; have := HN1.out; omega
        have h5 : (D ++ [r]).length ≤ 5000 := by rw [HLEN.out]; omega
        refine (rout0 H8 h0 h5).mono ?_
        rintro e w9 ⟨A9, c9, rfl, H9, Z9, L9⟩
        go_wp2_with fail
        go_end0
        refine ⟨A9, c9, rfl, ?_, Z8.trans Z9 (fun k _ e => e), fun k hk => Nat.le_trans Z8.size (L9 k hk)⟩
        rw [putT_yes HO.out HD.out.2 (by rw [HLEN.out]; exact hq)]
        exact H9
      · go_wp2_with fail
        go_end0
        refine ⟨A2, d2, rfl, ?_, ?_, fun k hk => Nat.le_trans Z3.out.size (LT7.out k hk).1⟩
        · rw [putT_no HO.out HD.out.2 (by rw [HLEN.out]; omega)]
          exact H7.out.ext (ext_drew _)
        · exact Z7.out.ext (ext_drew _)
  · go_wp2_with fail
    obtain ⟨w2', hw2⟩ : ∃ w2', w2 = w2' := ⟨_, rfl⟩
    refine (rout H2.out hi (by omega)).mono ?_
    rintro e w3 ⟨A3, c3, rfl, H3, z3, _⟩
    obtain ⟨D, hD0⟩ : ∃ D, D = T.take i ++ T.drop (i + 1) := ⟨_, rfl⟩
    rw [← hD0] at H3
    have H3 := hid H3
    have B3 := hid (B2.out.shy z3 (fun e => hgg e.symm))
    have Z3 := hid ((Shy.of_ext X2.out (U := fun k => k = g)).trans z3 (fun k _ e => e))
    have HD : Hid (D.length ≤ T.length ∧ D = dropT T (some i)) := hid ⟨by rw [hD0]; exact dropT_len T (some i), hD0⟩
    clear hD0 H2 B2 X2 z3
    obtain ⟨nd, hnd⟩ : ∃ nd, D.length = nd := ⟨_, rfl⟩
    have hnd9 : nd ≤ 4096 := by have := HD.out.1; omega
    have KEEP : Hid (∀ W, Ext w3 W → W.cell? ⟨g, 1, none⟩ = some (.slice A3 nd c3) ∧ W.cell? ⟨gx, 0, none⟩ = some (.string rn) ∧ W.cell? ⟨gx, 1, none⟩ = some (.int .i64 r.e.k) ∧ W.cell? ⟨gx, 2, none⟩ = some (.int .i64 r.e.x.till) ∧ W.cell? ⟨gx, 3, none⟩ = some (.bool (isOf r.e.x)) ∧ W.cell? ⟨gx, 4, none⟩ = some (.string sn) ∧ W.cell? ⟨gx, 5, none⟩ = some (.int .i64 (setOf r.e.x).ty) ∧ W.cell? ⟨gx, 6, none⟩ = some (.int .i64 (setOf r.e.x).cl) ∧ W.cell? ⟨gx, 7, none⟩ = some (.int .i64 (setOf r.e.x).ttl) ∧ W.cell? ⟨gx, 8, none⟩ = some (.slice r.A sl r.c) ∧ W.cell? ⟨gx, 9, none⟩ = some (.int .i64 (rankOf r.e.x))) := hid (fun W y => by
      have b := B3.out.ext y
      refine ⟨?_, b.cell 0, b.cell 1, b.cell 2, b.cell 3, b.cell 4, b.cell 5, b.cell 6, b.cell 7, b.cell 8, b.cell 9⟩
      have := (H3.out.b.ext y).cell 1
      rw [hnd] at this
      exact this)
    have FR : Hid (∀ W, Ext w3 W → ∀ q, W.frozen? ⟨g, q, none⟩ = false) := hid (fun W y => (H3.out.b.ext y).frozen)
    have RD3 := H3.out.r
    rw [hnd] at RD3
    have RD3 := hid RD3
    have HND := hid hnd
    obtain ⟨i0, hi0, hz0, hz1, hz2⟩ := info_partsT info_thing
    clear hnd
    go_upto_region 4 with (fail)
    refine wp_region_noPanic ?_
    refine region_E (S := fun W => W.cell? ⟨g, 1, none⟩ = some (.slice A3 nd c3) ∧ W.cell? ⟨gx, 0, none⟩ = some (.string rn) ∧ W.cell? ⟨gx, 1, none⟩ = some (.int .i64 r.e.k) ∧ W.cell? ⟨gx, 2, none⟩ = some (.int .i64 r.e.x.till) ∧ W.cell? ⟨gx, 3, none⟩ = some (.bool (isOf r.e.x)) ∧ W.cell? ⟨gx, 4, none⟩ = some (.string sn) ∧ W.cell? ⟨gx, 5, none⟩ = some (.int .i64 (setOf r.e.x).ty) ∧ W.cell? ⟨gx, 6, none⟩ = some (.int .i64 (setOf r.e.x).cl) ∧ W.cell? ⟨gx, 7, none⟩ = some (.int .i64 (setOf r.e.x).ttl) ∧ W.cell? ⟨gx, 8, none⟩ = some (.slice r.A sl r.c) ∧ W.cell? ⟨gx, 9, none⟩ = some (.int .i64 (rankOf r.e.x))) 12 (by kernel_rfl) (by kernel_rfl) (by kernel_rfl) ?_
    refine EG_take 0 (v := ?v18) (by simp only [lga, lgb, lgc]; rfl) (by kernel_rfl) (by kernel_rfl) (by decide) (fun _ _ _ h => h) (Or.inl ⟨by rfl, ?hy18⟩) (KEEP.out _ (ext_drew _)) ?rest18
    case hy18 => intro W hSW; (try dsimp only at hSW); obtain ⟨e0, e1, e2, e3, e4, e5, e6, e7, e8, e9, e10⟩ := hSW; go_simp <;> with_reducible rfl
    try simp only [Act.put, lsa, lsb, lsc]
    refine EG_take 2 (v := ?v19) (by simp only [lga, lgb, lgc]; rfl) (by kernel_rfl) (by kernel_rfl) (by decide) (fun _ _ _ h => h) (Or.inl ⟨by rfl, ?hy19⟩) (KEEP.out _ (ext_drew _)) ?rest19
    case hy19 => intro W hSW; (try dsimp only at hSW); obtain ⟨e0, e1, e2, e3, e4, e5, e6, e7, e8, e9, e10⟩ := hSW; go_simp <;> with_reducible rfl
    try simp only [Act.put, lsa, lsb, lsc]
    refine EG_take 3 (v := ?v20) (by simp only [lga, lgb, lgc]; rfl) (by kernel_rfl) (by kernel_rfl) (by decide) (fun _ _ _ h => h) (Or.inl ⟨by rfl, ?hy20⟩) (KEEP.out _ (ext_drew _)) ?rest20
    case hy20 => intro W hSW; (try dsimp only at hSW); obtain ⟨e0, e1, e2, e3, e4, e5, e6, e7, e8, e9, e10⟩ := hSW; go_simp <;> with_reducible rfl
    try simp only [Act.put, lsa, lsb, lsc]
    refine EG_take 4 (v := ?v21) (by simp only [lga, lgb, lgc]; rfl) (by kernel_rfl) (by kernel_rfl) (by decide) (fun _ _ _ h => h) (Or.inl ⟨by rfl, ?hy21⟩) (KEEP.out _ (ext_drew _)) ?rest21
    case hy21 => intro W hSW; (try dsimp only at hSW); obtain ⟨e0, e1, e2, e3, e4, e5, e6, e7, e8, e9, e10⟩ := hSW; go_simp <;> with_reducible rfl
    try simp only [Act.put, lsa, lsb, lsc]
    refine EG_take 5 (v := ?v22) (by simp only [lga, lgb, lgc]; rfl) (by kernel_rfl) (by kernel_rfl) (by decide) (fun _ _ _ h => h) (Or.inl ⟨by rfl, ?hy22⟩) (KEEP.out _ (ext_drew _)) ?rest22
    case hy22 => intro W hSW; (try dsimp only at hSW); obtain ⟨e0, e1, e2, e3, e4, e5, e6, e7, e8, e9, e10⟩ := hSW; go_simp <;> with_reducible rfl
    try simp only [Act.put, lsa, lsb, lsc]
    refine EG_take 7 (v := ?v23) (by simp only [lga, lgb, lgc]; rfl) (by kernel_rfl) (by kernel_rfl) (by decide) (fun _ _ _ h => h) (Or.inl ⟨by rfl, ?hy23⟩) (KEEP.out _ (ext_drew _)) ?rest23
    case hy23 => intro W hSW; (try dsimp only at hSW); obtain ⟨e0, e1, e2, e3, e4, e5, e6, e7, e8, e9, e10⟩ := hSW; go_simp <;> with_reducible rfl
    try simp only [Act.put, lsa, lsb, lsc]
    have xd := ext_drew w3
    obtain ⟨wd, hwd⟩ : ∃ wd, w3.drew = wd := ⟨_, rfl⟩
    rw [hwd] at xd ⊢
    clear hwd
    apply pass5 (fun gq A1 d1 gs w => Ext w3 w ∧ OwnG okC w w3.heap.size 100 10 A1 nd d1 (cellsTM D) ∧ Blk w gs 100 #[.string rn, .int .i64 r.e.k, .int .i64 r.e.x.till, .bool (isOf r.e.x), .string sn, .int .i64 (setOf r.e.x).ty, .int .i64 (setOf r.e.x).cl, .int .i64 (setOf r.e.x).ttl, .slice r.A sl r.c, .int .i64 (rankOf r.e.x)])
    case main =>
      intro key0
      refine EG_two 1 8 (by kernel_rfl) (by simp only [lga, lgb, lgc]; rfl) (by simp only [lga, lgb, lgc]; rfl) (by decide) (by decide) ?h1p ?h2p
      case h1p =>
        intro K hK0
        have hK := hid hK0
        clear hK0
        go_simp
        have xq : Ext w3 (wd.alloc (.cells #[] 100)) := ext_trans xd (ext_alloc _ _)
        have dst : OwnG okC (wd.alloc (.cells #[] 100)) w3.heap.size 100 10 (some ⟨wd.heap.size, 0, none⟩) 0 0 [] := .inr ⟨wd.heap.size, [], rfl, xd.size, heap_alloc_new wd _, by simp, Nat.le_refl _, by simp [maxLen], by simp, by simp⟩
        obtain ⟨wq, hwq⟩ : ∃ wq, wd.alloc (.cells #[] 100) = wq := ⟨_, rfl⟩
        obtain ⟨gq, hgq⟩ : ∃ gq, wd.heap.size = gq := ⟨_, rfl⟩
        have HGQ := hid hgq
        have HWQ := hid hwq
        rw [hwq] at xq dst
        rw [hgq] at dst
        rw [hwq, hgq]
        clear hwq hgq
        refine hK.out _ _ (KEEP.out _ xq) ?_
        clear hK K
        try simp only [Act.put, lsa, lsb, lsc]
        refine EG_two 6 8 (by kernel_rfl) (by simp only [lga, lgb, lgc]; rfl) (by simp only [lga, lgb, lgc]; rfl) (by decide) (by decide) ?h3p ?h4p
        case h3p =>
          intro K hK0
          have hK := hid hK0
          clear hK0
          refine step_append_g (ok := okC) rfl (.tmp 17) (.tmp 21) 56 rfl w3.heap.size 100 i0 (.agg #[.string ⟨#[]⟩, .int .i64 0, .int .i64 0, .bool false, .string ⟨#[]⟩, .int .i64 0, .int .i64 0, .int .i64 0, .slice none 0 0, .int .i64 0]) 10 112 Try.underlying56 hi0 hz0 hz1 hz2 rfl (by decide) zeroT (fun _ h => h) (by rfl) dst (by rfl) (RD3.out.ext xq) (okC_all _) (by omega) (by unfold maxLen; omega) xq.size ?_
          intro A1 d1 w5 o1 g1 n1
          have x5 : Ext w3 w5 := below_of_grown xq xq.size g1 (fun q hq => (dst.lt q hq).1)
          rw [show 0 + nd = nd from by omega, List.nil_append] at o1
          rw [show 0 + nd = nd from by omega]
          refine hK.out _ _ (KEEP.out _ x5) ?_
          clear hK K
          try simp only [Act.put, lsa, lsb, lsc]
          refine EG_one 8 (by kernel_rfl) (by simp only [lga, lgb, lgc]; rfl) (by decide) ?_
          intro K hK0
          have hK := hid hK0
          clear hK0
          go_simp
          have xLa : Ext w3 (w5.alloc (.cells #[.string rn, .int .i64 r.e.k, .int .i64 r.e.x.till, .bool (isOf r.e.x), .string sn, .int .i64 (setOf r.e.x).ty, .int .i64 (setOf r.e.x).cl, .int .i64 (setOf r.e.x).ttl, .slice r.A sl r.c, .int .i64 (rankOf r.e.x)] 100)) := ext_trans x5 (ext_alloc _ _)
          have bLa := Blk.new w5 100 #[.string rn, .int .i64 r.e.k, .int .i64 r.e.x.till, .bool (isOf r.e.x), .string sn, .int .i64 (setOf r.e.x).ty, .int .i64 (setOf r.e.x).cl, .int .i64 (setOf r.e.x).ttl, .slice r.A sl r.c, .int .i64 (rankOf r.e.x)]
          have eLa := ext_alloc w5 (.cells #[.string rn, .int .i64 r.e.k, .int .i64 r.e.x.till, .bool (isOf r.e.x), .string sn, .int .i64 (setOf r.e.x).ty, .int .i64 (setOf r.e.x).cl, .int .i64 (setOf r.e.x).ttl, .slice r.A sl r.c, .int .i64 (rankOf r.e.x)] 100)
          obtain ⟨wla, hwla⟩ : ∃ wl, w5.alloc (.cells #[.string rn, .int .i64 r.e.k, .int .i64 r.e.x.till, .bool (isOf r.e.x), .string sn, .int .i64 (setOf r.e.x).ty, .int .i64 (setOf r.e.x).cl, .int .i64 (setOf r.e.x).ttl, .slice r.A sl r.c, .int .i64 (rankOf r.e.x)] 100) = wl := ⟨_, rfl⟩
          obtain ⟨gla, hgla⟩ : ∃ gl, w5.heap.size = gl := ⟨_, rfl⟩
          rw [hwla] at xLa bLa eLa
          rw [hgla] at bLa
          rw [hwla, hgla]
          have HGLa := hid hgla
          clear hwla hgla
          refine hK.out _ _ (KEEP.out _ xLa) ?_
          clear hK K
          try simp only [Act.put, lsa, lsb, lsc]
          exact key0 gq _ _ _ _ ⟨xLa, o1.ext eLa, bLa⟩
        case h4p =>
          intro K hK0
          have hK := hid hK0
          clear hK0
          go_simp
          have xLb : Ext w3 (wq.alloc (.cells #[.string rn, .int .i64 r.e.k, .int .i64 r.e.x.till, .bool (isOf r.e.x), .string sn, .int .i64 (setOf r.e.x).ty, .int .i64 (setOf r.e.x).cl, .int .i64 (setOf r.e.x).ttl, .slice r.A sl r.c, .int .i64 (rankOf r.e.x)] 100)) := ext_trans xq (ext_alloc _ _)
          have bLb := Blk.new wq 100 #[.string rn, .int .i64 r.e.k, .int .i64 r.e.x.till, .bool (isOf r.e.x), .string sn, .int .i64 (setOf r.e.x).ty, .int .i64 (setOf r.e.x).cl, .int .i64 (setOf r.e.x).ttl, .slice r.A sl r.c, .int .i64 (rankOf r.e.x)]
          have eLb := ext_alloc wq (.cells #[.string rn, .int .i64 r.e.k, .int .i64 r.e.x.till, .bool (isOf r.e.x), .string sn, .int .i64 (setOf r.e.x).ty, .int .i64 (setOf r.e.x).cl, .int .i64 (setOf r.e.x).ttl, .slice r.A sl r.c, .int .i64 (rankOf r.e.x)] 100)
          obtain ⟨wlb, hwlb⟩ : ∃ wl, wq.alloc (.cells #[.string rn, .int .i64 r.e.k, .int .i64 r.e.x.till, .bool (isOf r.e.x), .string sn, .int .i64 (setOf r.e.x).ty, .int .i64 (setOf r.e.x).cl, .int .i64 (setOf r.e.x).ttl, .slice r.A sl r.c, .int .i64 (rankOf r.e.x)] 100) = wl := ⟨_, rfl⟩
          obtain ⟨glb, hglb⟩ : ∃ gl, wq.heap.size = gl := ⟨_, rfl⟩
          rw [hwlb] at xLb bLb eLb
          rw [hglb] at bLb
          rw [hwlb, hglb]
          have HGLb := hid hglb
          clear hwlb hglb
          refine hK.out _ _ (KEEP.out _ xLb) ?_
          clear hK K
          try simp only [Act.put, lsa, lsb, lsc]
          refine EG_one 6 (by kernel_rfl) (by simp only [lga, lgb, lgc]; rfl) (by decide) ?_
          intro K hK0
          have hK := hid hK0
          clear hK0
          refine step_append_g (ok := okC) rfl (.tmp 17) (.tmp 21) 56 rfl w3.heap.size 100 i0 (.agg #[.string ⟨#[]⟩, .int .i64 0, .int .i64 0, .bool false, .string ⟨#[]⟩, .int .i64 0, .int .i64 0, .int .i64 0, .slice none 0 0, .int .i64 0]) 10 112 Try.underlying56 hi0 hz0 hz1 hz2 rfl (by decide) zeroT (fun _ h => h) (by rfl) (dst.ext eLb) (by rfl) (RD3.out.ext xLb) (okC_all _) (by omega) (by unfold maxLen; omega) xLb.size ?_
          intro A1 d1 w5 o1 g1 n1
          have x5 : Ext w3 w5 := below_of_grown xLb xLb.size g1 (fun q hq => ((dst.ext eLb).lt q hq).1)
          rw [show 0 + nd = nd from by omega, List.nil_append] at o1
          rw [show 0 + nd = nd from by omega]
          have bL5 := bLb.grown g1 (fun e => by have h1 := (dst.lt _ e.symm).2; have h2 := HGLb.out; omega)
          refine hK.out _ _ (KEEP.out _ x5) ?_
          clear hK K
          try simp only [Act.put, lsa, lsb, lsc]
          exact key0 gq _ _ _ _ ⟨x5, o1, bL5⟩
      case h2p =>
        intro K hK0
        have hK := hid hK0
        clear hK0
        go_simp
        have xLc : Ext w3 (wd.alloc (.cells #[.string rn, .int .i64 r.e.k, .int .i64 r.e.x.till, .bool (isOf r.e.x), .string sn, .int .i64 (setOf r.e.x).ty, .int .i64 (setOf r.e.x).cl, .int .i64 (setOf r.e.x).ttl, .slice r.A sl r.c, .int .i64 (rankOf r.e.x)] 100)) := ext_trans xd (ext_alloc _ _)
        have bLc := Blk.new wd 100 #[.string rn, .int .i64 r.e.k, .int .i64 r.e.x.till, .bool (isOf r.e.x), .string sn, .int .i64 (setOf r.e.x).ty, .int .i64 (setOf r.e.x).cl, .int .i64 (setOf r.e.x).ttl, .slice r.A sl r.c, .int .i64 (rankOf r.e.x)]
        have eLc := ext_alloc wd (.cells #[.string rn, .int .i64 r.e.k, .int .i64 r.e.x.till, .bool (isOf r.e.x), .string sn, .int .i64 (setOf r.e.x).ty, .int .i64 (setOf r.e.x).cl, .int .i64 (setOf r.e.x).ttl, .slice r.A sl r.c, .int .i64 (rankOf r.e.x)] 100)
        obtain ⟨wlc, hwlc⟩ : ∃ wl, wd.alloc (.cells #[.string rn, .int .i64 r.e.k, .int .i64 r.e.x.till, .bool (isOf r.e.x), .string sn, .int .i64 (setOf r.e.x).ty, .int .i64 (setOf r.e.x).cl, .int .i64 (setOf r.e.x).ttl, .slice r.A sl r.c, .int .i64 (rankOf r.e.x)] 100) = wl := ⟨_, rfl⟩
        obtain ⟨glc, hglc⟩ : ∃ gl, wd.heap.size = gl := ⟨_, rfl⟩
        rw [hwlc] at xLc bLc eLc
        rw [hglc] at bLc
        rw [hwlc, hglc]
        have HGLc := hid hglc
        clear hwlc hglc
        refine hK.out _ _ (KEEP.out _ xLc) ?_
        clear hK K
        try simp only [Act.put, lsa, lsb, lsc]
        refine EG_one 1 (by kernel_rfl) (by simp only [lga, lgb, lgc]; rfl) (by decide) ?_
        intro K hK0
        have hK := hid hK0
        clear hK0
        go_simp
        have xq : Ext w3 (wlc.alloc (.cells #[] 100)) := ext_trans xLc (ext_alloc _ _)
        have dst : OwnG okC (wlc.alloc (.cells #[] 100)) w3.heap.size 100 10 (some ⟨wlc.heap.size, 0, none⟩) 0 0 [] := .inr ⟨wlc.heap.size, [], rfl, xLc.size, heap_alloc_new wlc _, by simp, Nat.le_refl _, by simp [maxLen], by simp, by simp⟩
        obtain ⟨wq, hwq⟩ : ∃ wq, wlc.alloc (.cells #[] 100) = wq := ⟨_, rfl⟩
        obtain ⟨gq, hgq⟩ : ∃ gq, wlc.heap.size = gq := ⟨_, rfl⟩
        have HGQ := hid hgq
        have HWQ := hid hwq
        rw [hwq] at xq dst
        rw [hgq] at dst
        rw [hwq, hgq]
        have bq := bLc.ext (show Ext wlc wq from by rw [← hwq]; exact ext_alloc _ _)
        clear hwq hgq
        refine hK.out _ _ (KEEP.out _ xq) ?_
        clear hK K
        try simp only [Act.put, lsa, lsb, lsc]
        refine EG_one 6 (by kernel_rfl) (by simp only [lga, lgb, lgc]; rfl) (by decide) ?_
        intro K hK0
        have hK := hid hK0
        clear hK0
        refine step_append_g (ok := okC) rfl (.tmp 17) (.tmp 21) 56 rfl w3.heap.size 100 i0 (.agg #[.string ⟨#[]⟩, .int .i64 0, .int .i64 0, .bool false, .string ⟨#[]⟩, .int .i64 0, .int .i64 0, .int .i64 0, .slice none 0 0, .int .i64 0]) 10 112 Try.underlying56 hi0 hz0 hz1 hz2 rfl (by decide) zeroT (fun _ h => h) (by rfl) dst (by rfl) (RD3.out.ext xq) (okC_all _) (by omega) (by unfold maxLen; omega) xq.size ?_
        intro A1 d1 w5 o1 g1 n1
        have x5 : Ext w3 w5 := below_of_grown xq xq.size g1 (fun q hq => (dst.lt q hq).1)
        rw [show 0 + nd = nd from by omega, List.nil_append] at o1
        rw [show 0 + nd = nd from by omega]
        have bL5 := bq.grown g1 (fun e => by have h1 : glc = gq := Option.some.inj e; have h2 := HGQ.out; have h3 := bLc.lt; omega)
        refine hK.out _ _ (KEEP.out _ x5) ?_
        clear hK K
        try simp only [Act.put, lsa, lsb, lsc]
        exact key0 gq _ _ _ _ ⟨x5, o1, bL5⟩
    case key =>
      rintro gq A1 d1 gs w5 ⟨x5, o1, b5⟩
      have X5 := hid x5
      have O1 := hid o1
      have R5 : Hid (RdG w5 10 (some ⟨gs, 0, none⟩) 1 1 (cellsT r)) := hid (rdT_one (by rw [HE1.out]; exact b5))
      clear x5 o1 b5
      refine EG_one 9 (by kernel_rfl) (by simp only [lga, lgb, lgc]; rfl) (by decide) ?_
      intro K hK0
      have hK := hid hK0
      clear hK0
      refine step_append_g (ok := okC) rfl (.tmp 22) (.tmp 24) 56 rfl w3.heap.size 100 i0 (.agg #[.string ⟨#[]⟩, .int .i64 0, .int .i64 0, .bool false, .string ⟨#[]⟩, .int .i64 0, .int .i64 0, .int .i64 0, .slice none 0 0, .int .i64 0]) 10 112 Try.underlying56 hi0 hz0 hz1 hz2 rfl (by decide) zeroT (fun _ h => h) (by rfl) O1.out (by rfl) R5.out (okC_cells r) (by omega) (by unfold maxLen; omega) X5.out.size ?_
      intro A2 d2 w6 o2 g2 n2
      have X6 : Hid (Ext w3 w6) := hid (below_of_grown X5.out X5.out.size g2 (fun q hq => (O1.out.lt q hq).1))
      obtain ⟨n1, hn1⟩ : ∃ n1, nd + 1 = n1 := ⟨_, rfl⟩
      rw [hn1] at o2 ⊢
      have O2 := hid o2
      have HN1 := hid hn1
      clear g2 n2 o2 hn1
      refine hK.out _ _ (KEEP.out _ X6.out) ?_
      clear hK K
      try simp only [Act.put, lsa, lsb, lsc]
      refine EG_take 10 (v := ?v24) (by simp only [lga, lgb, lgc]; rfl) (by kernel_rfl) (by kernel_rfl) (by decide) (fun _ _ _ h => h) (Or.inl ⟨by rfl, ?hy24⟩) (KEEP.out _ X6.out) ?rest24
      case hy24 => intro W hSW; (try dsimp only at hSW); obtain ⟨e0, e1, e2, e3, e4, e5, e6, e7, e8, e9, e10⟩ := hSW; go_simp <;> with_reducible rfl
      try simp only [Act.put, lsa, lsb, lsc]
      refine EG_take 11 (v := ?v25) (by simp only [lga, lgb, lgc]; rfl) (by kernel_rfl) (by kernel_rfl) (by decide) (fun _ _ _ h => h) (Or.inl ⟨by rfl, ?hy25⟩) (KEEP.out _ X6.out) ?rest25
      case hy25 => intro W hSW; (try dsimp only at hSW); obtain ⟨e0, e1, e2, e3, e4, e5, e6, e7, e8, e9, e10⟩ := hSW; go_simp <;> with_reducible rfl
      try simp only [Act.put, lsa, lsb, lsc]
      refine EG_end (by kernel_rfl) (by simp only [lga, lgb, lgc]; rfl) ?_
      intro K hK0
      have hK := hid hK0
      clear hK0
      go_simp
      have e0 := (KEEP.out _ X6.out).1
      have ef := FR.out _ X6.out
      go_simp
      refine hK.out _ _ ?_
      clear hK K
      refine NoPanic.normal ?_
      have hlen : (D ++ [r]).length = n1 := by rw [List.length_append, HND.out]; exact HN1.out
      have an := H3.out.anew X6.out (A' := A2) (c' := d2) (T' := D ++ [r]) (by rw [hlen, cellsTM_app, show cellsTM [r] = cellsT r from by simp [cellsTM]]; exact O2.out) (fun t ht => by
        rcases List.mem_append.1 ht with h | h
        · exact ⟨H3.out.d t h, H3.out.ne.2 t h⟩
        · obtain rfl := List.mem_singleton.1 h
          exact ⟨rdG_off HR.out Z3.out (fun h0 k hk e => HRN.out h0 (by rw [hk, e])), HRN.out⟩)
      rw [hlen] at an
      obtain ⟨w7, hw7⟩ : ∃ w7, w6.setCell ⟨g, 1, none⟩ (.slice A2 n1 d2) = w7 := ⟨_, rfl⟩
      rw [hw7] at an ⊢
      have H7 := hid an.1
      have Z7 := hid (Z3.out.trans an.2 (fun k _ e => e))
      have HLEN := hid hlen
      have LT7 := hid O2.out.lt
      clear an hw7 hlen X6 O2 FR KEEP R5 O1 X5
      have b0 := H7.out.b.cell 0
      have b1 := H7.out.b.cell 1
      rw [HLEN.out] at b1
      simp at b0 b1
      have hcap := H7.out.r.cap
      rw [HLEN.out] at hcap
      have hcap2 : n1 ≤ 4097 := by have := HN1.out; omega
      clear hcap
      have KE : Hid (∀ W, Ext w7 W → W.cell? ⟨g, 0, none⟩ = some (.int .i64 most) ∧ W.cell? ⟨g, 1, none⟩ = some (.slice A2 n1 d2)) := hid (fun W y => ⟨(y.cell (p := ⟨g, 0, none⟩) H7.out.b.lt).trans b0, (y.cell (p := ⟨g, 1, none⟩) H7.out.b.lt).trans b1⟩)
      clear b0 b1
      go_upto_region 5 with (fail)
      refine wp_region_noPanic ?_
      refine region_E (S := fun W => W.cell? ⟨g, 0, none⟩ = some (.int .i64 most) ∧ W.cell? ⟨g, 1, none⟩ = some (.slice A2 n1 d2)) 9 (by kernel_rfl) (by kernel_rfl) (by kernel_rfl) ?_
      refine EG_take 0 (v := ?v26) (by simp only [lga, lgb, lgc]; rfl) (by kernel_rfl) (by kernel_rfl) (by decide) (fun _ _ _ h => h) (Or.inl ⟨by rfl, ?hy26⟩) (KE.out _ (ext_drew _)) ?rest26
      case hy26 => intro W hSW; (try dsimp only at hSW); obtain ⟨e0, e1⟩ := hSW; go_simp <;> with_reducible rfl
      try simp only [Act.put, lsa, lsb, lsc]
      refine EG_take 1 (v := ?v27) (by simp only [lga, lgb, lgc]; rfl) (by kernel_rfl) (by kernel_rfl) (by decide) (fun _ _ _ h => h) (Or.inl ⟨by rfl, ?hy27⟩) (KE.out _ (ext_drew _)) ?rest27
      case hy27 => intro W hSW; (try dsimp only at hSW); obtain ⟨e0, e1⟩ := hSW; go_simp <;> with_reducible rfl
      try simp only [Act.put, lsa, lsb, lsc]
      refine EG_take 2 (v := ?v28) (by simp only [lga, lgb, lgc]; rfl) (by kernel_rfl) (by kernel_rfl) (by decide) (fun _ _ _ h => h) (Or.inl ⟨by rfl, ?hy28⟩) (KE.out _ (ext_drew _)) ?rest28
      case hy28 => intro W hSW; (try dsimp only at hSW); obtain ⟨e0, e1⟩ := hSW; go_simp <;> with_reducible rfl
      try simp only [Act.put, lsa, lsb, lsc]
      refine EG_take 3 (v := ?v29) (by simp only [lga, lgb, lgc]; rfl) (by kernel_rfl) (by kernel_rfl) (by decide) (fun _ _ _ h => h) (Or.inl ⟨by rfl, ?hy29⟩) (KE.out _ (ext_drew _)) ?rest29
      case hy29 => intro W hSW; (try dsimp only at hSW); obtain ⟨e0, e1⟩ := hSW; go_simp <;> with_reducible rfl
      try simp only [Act.put, lsa, lsb, lsc]
      refine EG_take 4 (v := ?v30) (by simp only [lga, lgb, lgc]; rfl) (by kernel_rfl) (by kernel_rfl) (by decide) (fun _ _ _ h => h) (Or.inl ⟨by rfl, ?hy30⟩) (KE.out _ (ext_drew _)) ?rest30
      case hy30 => intro W hSW; (try dsimp only at hSW); obtain ⟨e0, e1⟩ := hSW; go_simp <;> with_reducible rfl
      try simp only [Act.put, lsa, lsb, lsc]
      refine EG_take 5 (v := ?v31) (by simp only [lga, lgb, lgc]; rfl) (by kernel_rfl) (by kernel_rfl) (by decide) (fun _ _ _ h => h) (Or.inl ⟨by rfl, ?hy31⟩) (KE.out _ (ext_drew _)) ?rest31
      case hy31 => intro W hSW; (try dsimp only at hSW); obtain ⟨e0, e1⟩ := hSW; go_simp <;> with_reducible rfl
      try simp only [Act.put, lsa, lsb, lsc]
      refine EG_take 6 (v := ?v32) (by simp only [lga, lgb, lgc]; rfl) (by kernel_rfl) (by kernel_rfl) (by decide) (fun _ _ _ h => h) (Or.inl ⟨by rfl, ?hy32⟩) (KE.out _ (ext_drew _)) ?rest32
      case hy32 => intro W hSW; (try dsimp only at hSW); obtain ⟨e0, e1⟩ := hSW; go_simp <;> with_reducible rfl
      try simp only [Act.put, lsa, lsb, lsc]
      refine EG_take 7 (v := ?v33) (by simp only [lga, lgb, lgc]; rfl) (by kernel_rfl) (by kernel_rfl) (by decide) (fun _ _ _ h => h) (Or.inl ⟨by rfl, ?hy33⟩) (KE.out _ (ext_drew _)) ?rest33
      case hy33 => intro W hSW; (try dsimp only at hSW); obtain ⟨e0, e1⟩ := hSW; go_simp <;> with_reducible rfl
      try simp only [Act.put, lsa, lsb, lsc]
      refine EG_take 8 (v := ?v34) (by simp only [lga, lgb, lgc]; rfl) (by kernel_rfl) (by kernel_rfl) (by decide) (fun _ _ _ h => h) (Or.inl ⟨by rfl, ?hy34⟩) (KE.out _ (ext_drew _)) ?rest34
      case hy34 => intro W hSW; (try dsimp only at hSW); obtain ⟨e0, e1⟩ := hSW; go_simp <;> with_reducible rfl
      try simp only [Act.put, lsa, lsb, lsc]
      refine EG_end (by kernel_rfl) (by simp only [lga, lgb, lgc]; rfl) ?_
      intro K hK0
      have hK := hid hK0
      clear hK0
      go_simp
      refine hK.out _ _ ?_
      clear hK K
      refine NoPanic.normal ?_
      by_cases hq : most < (n1 : Int)
      · go_wp2_with fail
        have H8 := H7.out.ext (ext_drew w7)
        obtain ⟨w8, hw8⟩ : ∃ w8, w7.drew = w8 := ⟨_, rfl⟩
        have Z8 := Z7.out.ext (ext_drew w7)
        rw [hw8] at H8 Z8 ⊢
        have h0 : 0 < (D ++ [r]).length := by rw [HLEN.out]; have := HN1.out; omega
        have h5 : (D ++ [r]).length ≤ 5000 := by rw [HLEN.out]; omega
        refine (rout0 H8 h0 h5).mono ?_
        rintro e w9 ⟨A9, c9, rfl, H9, Z9, L9⟩
        go_wp2_with fail
        go_end0
        refine ⟨A9, c9, rfl, ?_, Z8.trans Z9 (fun k _ e => e), fun k hk => Nat.le_trans Z8.size (L9 k hk)⟩
        rw [putT_yes HO.out HD.out.2 (by rw [HLEN.out]; exact hq)]
        exact H9
      · go_wp2_with fail
        go_end0
        refine ⟨A2, d2, rfl, ?_, ?_, fun k hk => Nat.le_trans Z3.out.size (LT7.out k hk).1⟩
        · rw [putT_no HO.out HD.out.2 (by rw [HLEN.out]; omega)]
          exact H7.out.ext (ext_drew _)
        · exact Z7.out.ext (ext_drew _)
end
end Go.Proofs.Ytcddfenhkljpeaa

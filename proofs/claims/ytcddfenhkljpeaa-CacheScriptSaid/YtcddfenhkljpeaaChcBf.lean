import Derived.Test.YtcddfenhkljpeaaChcBe
/- Layer 23: the document's used. (Printed by gen_chcbf.py.) -/
namespace Go.Proofs.Ytcddfenhkljpeaa
open Go.BK Go.BK.CH Go.BK.NM Go.RowKit Go.Maps
set_option linter.unusedVariables false
set_option linter.unusedSimpArgs false
theorem RefC.off {w w' : World} {g : Nat} {most now : Int} {A : Option Addr} {c : Nat} {T : List TRow} {V : Nat → Prop} (h : RefC w g most now A c T) (s : Shy V w w') (hg : ¬ V g) (hA : 0 < T.length → ∀ k, blk A = some k → ¬ V k) (hT : ∀ t ∈ T, 0 < (setOf t.e.x).data.length → ∀ k, blk t.A = some k → ¬ V k) : RefC w' g most now A c T :=
  ⟨h.b.shy s hg, rdG_off h.r s hA, fun t ht => rdG_off (h.d t ht) s (hT t ht), h.ne⟩
def UsedD (w w' : World) (g : Nat) (most now : Int) (T : List TRow) (r : TRow) (e : Ending) : Prop :=
  ∃ A c, e = .returned (.agg (cellsT r).toArray) ∧ RefC w' g most now A c T ∧ Shy (fun k => k = g) w w' ∧ ∀ k, blk A = some k → w.heap.size ≤ k
section
variable {w w' : World} {g : Nat} {most now : Int} {A : Option Addr} {c : Nat} {T : List TRow}
set_option maxHeartbeats 4000000 in
set_option maxRecDepth 100000 in
theorem rused (h : RefC w g most now A c T) {i : Nat} (hi : i < T.length) (hT : T.length ≤ 4096) :
    Calls Try.prog 53 #[pt g, .int .i64 i] w fun e w' => UsedD w w' g most now (T.take i ++ T.drop (i + 1) ++ [T.getD i tr0]) (T.getD i tr0) e := by
  obtain ⟨b, o, rfl, hb, hc⟩ := h.at_ (by omega)
  obtain ⟨r, hrm, hrd, ha⟩ := hc i hi
  rw [hrd]
  obtain ⟨D, hD0⟩ : ∃ D, D = T.take i ++ T.drop (i + 1) := ⟨_, rfl⟩
  rw [← hD0]
  have HD0 := hid hD0
  clear hD0
  have hnc := h.r.cap
  obtain ⟨n, hn⟩ : ∃ n, T.length = n := ⟨_, rfl⟩
  obtain ⟨rn, hrn0⟩ : ∃ rn, str r.e.n = rn := ⟨_, rfl⟩
  obtain ⟨sn, hsn⟩ : ∃ sn, str (setOf r.e.x).nm = sn := ⟨_, rfl⟩
  obtain ⟨sl, hsl⟩ : ∃ sl, (setOf r.e.x).data.length = sl := ⟨_, rfl⟩
  have e1 : (cellsT r).toArray = #[.string rn, .int .i64 r.e.k, .int .i64 r.e.x.till, .bool (isOf r.e.x), .string sn, .int .i64 (setOf r.e.x).ty, .int .i64 (setOf r.e.x).cl, .int .i64 (setOf r.e.x).ttl, .slice r.A sl r.c, .int .i64 (rankOf r.e.x)] := by unfold cellsT; rw [hrn0, hsn, hsl]
  have LL : ∀ W, Ext w W → W.cell? ⟨g, 1, none⟩ = some (.slice (some ⟨b, o, none⟩) n c) ∧ W.cell? ⟨b, o + i * 10, none⟩ = some (.string rn) ∧ W.cell? ⟨b, o + i * 10 + 1, none⟩ = some (.int .i64 r.e.k) ∧ W.cell? ⟨b, o + i * 10 + 2, none⟩ = some (.int .i64 r.e.x.till) ∧ W.cell? ⟨b, o + i * 10 + 3, none⟩ = some (.bool (isOf r.e.x)) ∧ W.cell? ⟨b, o + i * 10 + 4, none⟩ = some (.string sn) ∧ W.cell? ⟨b, o + i * 10 + 5, none⟩ = some (.int .i64 (setOf r.e.x).ty) ∧ W.cell? ⟨b, o + i * 10 + 6, none⟩ = some (.int .i64 (setOf r.e.x).cl) ∧ W.cell? ⟨b, o + i * 10 + 7, none⟩ = some (.int .i64 (setOf r.e.x).ttl) ∧ W.cell? ⟨b, o + i * 10 + 8, none⟩ = some (.slice r.A sl r.c) ∧ W.cell? ⟨b, o + i * 10 + 9, none⟩ = some (.int .i64 (rankOf r.e.x)) := fun W y => by
    have a : ∀ k u, #[.string rn, .int .i64 r.e.k, .int .i64 r.e.x.till, .bool (isOf r.e.x), .string sn, .int .i64 (setOf r.e.x).ty, .int .i64 (setOf r.e.x).cl, .int .i64 (setOf r.e.x).ttl, .slice r.A sl r.c, .int .i64 (rankOf r.e.x)][k]? = some u → W.cell? ⟨b, o + i * 10 + k, none⟩ = some u := fun k u hu => (y.cell (p := ⟨b, _, none⟩) hb).trans (ha k u (by rw [← e1] at hu; simpa using hu))
    refine ⟨?_, a 0 _ rfl, a 1 _ rfl, a 2 _ rfl, a 3 _ rfl, a 4 _ rfl, a 5 _ rfl, a 6 _ rfl, a 7 _ rfl, a 8 _ rfl, a 9 _ rfl⟩
    have := (h.b.ext y).cell 1
    rw [hn] at this
    exact this
  have xa := ext_alloc w (.cells #[.string ⟨#[]⟩, .int .i64 0, .int .i64 0, .bool false, .string ⟨#[]⟩, .int .i64 0, .int .i64 0, .int .i64 0, .slice none 0 0, .int .i64 0] 100)
  have ba := Blk.new w 100 #[.string ⟨#[]⟩, .int .i64 0, .int .i64 0, .bool false, .string ⟨#[]⟩, .int .i64 0, .int .i64 0, .int .i64 0, .slice none 0 0, .int .i64 0]
  obtain ⟨wa, hwa⟩ : ∃ wa, w.alloc (.cells #[.string ⟨#[]⟩, .int .i64 0, .int .i64 0, .bool false, .string ⟨#[]⟩, .int .i64 0, .int .i64 0, .int .i64 0, .slice none 0 0, .int .i64 0] 100) = wa := ⟨_, rfl⟩
  obtain ⟨gr, hgr⟩ : ∃ gr, w.heap.size = gr := ⟨_, rfl⟩
  rw [hwa] at xa ba
  rw [hgr] at ba
  have xx := ext_alloc wa (.cells #[.string rn, .int .i64 r.e.k, .int .i64 r.e.x.till, .bool (isOf r.e.x), .string sn, .int .i64 (setOf r.e.x).ty, .int .i64 (setOf r.e.x).cl, .int .i64 (setOf r.e.x).ttl, .slice r.A sl r.c, .int .i64 (rankOf r.e.x)] 100)
  have bx := Blk.new wa 100 #[.string rn, .int .i64 r.e.k, .int .i64 r.e.x.till, .bool (isOf r.e.x), .string sn, .int .i64 (setOf r.e.x).ty, .int .i64 (setOf r.e.x).cl, .int .i64 (setOf r.e.x).ttl, .slice r.A sl r.c, .int .i64 (rankOf r.e.x)]
  obtain ⟨wx, hwx⟩ : ∃ wx, wa.alloc (.cells #[.string rn, .int .i64 r.e.k, .int .i64 r.e.x.till, .bool (isOf r.e.x), .string sn, .int .i64 (setOf r.e.x).ty, .int .i64 (setOf r.e.x).cl, .int .i64 (setOf r.e.x).ttl, .slice r.A sl r.c, .int .i64 (rankOf r.e.x)] 100) = wx := ⟨_, rfl⟩
  obtain ⟨gx, hgx⟩ : ∃ gx, wa.heap.size = gx := ⟨_, rfl⟩
  rw [hwx] at xx bx
  rw [hgx] at bx
  have hgg : g ≠ gx := by have := h.b.lt; have := ba.lt; omega
  have hgg2 : g ≠ gr := by have := h.b.lt; omega
  have hgg3 : gr ≠ gx := by have := ba.lt; omega
  have ba2 := ba.ext xx
  have hx := ext_trans xa xx
  obtain ⟨l0, l1, l2, l3, l4, l5, l6, l7, l8, l9, l10⟩ := LL wa xa
  have HR : Hid (RdG w 1 r.A (setOf r.e.x).data.length r.c (tvs (setOf r.e.x).data)) := hid (h.d r hrm)
  have HRN : Hid (0 < (setOf r.e.x).data.length → blk r.A ≠ some g) := hid (h.ne.2 r hrm)
  have i1 : (0 : Int) ≤ (i : Int) := by omega
  have i2 : i < n := by omega
  have hnn : n ≤ 9223372036854775807 := by omega
  have H := hid h
  have BA := hid ba2
  have BX := hid bx
  have HX := hid hx
  have HGR := hid hgr
  have HN := hid hn
  have HI := hid hi
  have HE1 := hid e1
  have HNC := hid hnc
  simp only [pt]
  clear h ba bx ba2 hx xa xx LL ha hc hrn0 hsn hsl e1 hrd hn hi hnc
  go_enter Try.func53, Try.ntmps53
  go_upto_region 2 with (fail)
  clear hwa hgr hwx hgx l0 l1 l2 l3 l4 l5 l6 l7 l8 l9 l10
  go_wp2_with fail
  refine (rout (H.out.ext HX.out) HI.out (by omega)).mono ?_
  rintro e w3 ⟨A3, c3, rfl, H3, z3, _⟩
  rw [← HD0.out] at H3
  have H3 := hid H3
  have B3 := hid (BX.out.shy z3 (fun e => hgg e.symm))
  have BR := hid (BA.out.shy z3 (fun e => hgg2 e.symm))
  have Z3 := hid ((Shy.of_ext HX.out (U := fun k => k = g)).trans z3 (fun k _ e => e))
  have HD : Hid (D.length ≤ T.length ∧ ∀ t ∈ D, t ∈ T) := hid ⟨by rw [HD0.out]; exact dropT_len T (some i), by rw [HD0.out]; exact dropT_sub T (some i)⟩
  clear z3
  obtain ⟨nd, hnd⟩ : ∃ nd, D.length = nd := ⟨_, rfl⟩
  have hnd9 : nd ≤ 4096 := by have := HD.out.1; omega
  have KEEP : Hid (∀ W, Ext w3 W → W.cell? ⟨g, 1, none⟩ = some (.slice A3 nd c3) ∧ W.cell? ⟨gx, 0, none⟩ = some (.string rn) ∧ W.cell? ⟨gx, 1, none⟩ = some (.int .i64 r.e.k) ∧ W.cell? ⟨gx, 2, none⟩ = some (.int .i64 r.e.x.till) ∧ W.cell? ⟨gx, 3, none⟩ = some (.bool (isOf r.e.x)) ∧ W.cell? ⟨gx, 4, none⟩ = some (.string sn) ∧ W.cell? ⟨gx, 5, none⟩ = some (.int .i64 (setOf r.e.x).ty) ∧ W.cell? ⟨gx, 6, none⟩ = some (.int .i64 (setOf r.e.x).cl) ∧ W.cell? ⟨gx, 7, none⟩ = some (.int .i64 (setOf r.e.x).ttl) ∧ W.cell? ⟨gx, 8, none⟩ = some (.slice r.A sl r.c) ∧ W.cell? ⟨gx, 9, none⟩ = some (.int .i64 (rankOf r.e.x))) := hid (fun W y => by
    have b := B3.out.ext y
    refine ⟨?_, b.cell 0, b.cell 1, b.cell 2, b.cell 3, b.cell 4, b.cell 5, b.cell 6, b.cell 7, b.cell 8, b.cell 9⟩
    have := (H3.out.b.ext y).cell 1
    rw [hnd] at this
    exact this)
  have FR : Hid (∀ W, Ext w3 W → ∀ q, W.frozen? ⟨g, q, none⟩ = false) := hid (fun W y => (H3.out.b.ext y).frozen)
  have RD3 := H3.out.r
  rw [hnd] at RD3
  have RD3 := hid RD3
  have HND := hid hnd
  obtain ⟨i0, hi0, hz0, hz1, hz2⟩ := info_partsT info_thing
  clear hnd
  go_upto_region 3 with (fail)
  refine wp_region_noPanic ?_
  refine region_E (S := fun W => W.cell? ⟨g, 1, none⟩ = some (.slice A3 nd c3) ∧ W.cell? ⟨gx, 0, none⟩ = some (.string rn) ∧ W.cell? ⟨gx, 1, none⟩ = some (.int .i64 r.e.k) ∧ W.cell? ⟨gx, 2, none⟩ = some (.int .i64 r.e.x.till) ∧ W.cell? ⟨gx, 3, none⟩ = some (.bool (isOf r.e.x)) ∧ W.cell? ⟨gx, 4, none⟩ = some (.string sn) ∧ W.cell? ⟨gx, 5, none⟩ = some (.int .i64 (setOf r.e.x).ty) ∧ W.cell? ⟨gx, 6, none⟩ = some (.int .i64 (setOf r.e.x).cl) ∧ W.cell? ⟨gx, 7, none⟩ = some (.int .i64 (setOf r.e.x).ttl) ∧ W.cell? ⟨gx, 8, none⟩ = some (.slice r.A sl r.c) ∧ W.cell? ⟨gx, 9, none⟩ = some (.int .i64 (rankOf r.e.x))) 12 (by kernel_rfl) (by kernel_rfl) (by kernel_rfl) ?_
  refine EG_take 0 (v := ?v1) (by simp only [lga, lgb, lgc]; rfl) (by kernel_rfl) (by kernel_rfl) (by decide) (fun _ _ _ h => h) (Or.inl ⟨by rfl, ?hy1⟩) (KEEP.out _ (ext_drew _)) ?rest1
  case hy1 => intro W hSW; (try dsimp only at hSW); obtain ⟨e0, e1, e2, e3, e4, e5, e6, e7, e8, e9, e10⟩ := hSW; go_simp <;> with_reducible rfl
  try simp only [Act.put, lsa, lsb, lsc]
  refine EG_take 2 (v := ?v2) (by simp only [lga, lgb, lgc]; rfl) (by kernel_rfl) (by kernel_rfl) (by decide) (fun _ _ _ h => h) (Or.inl ⟨by rfl, ?hy2⟩) (KEEP.out _ (ext_drew _)) ?rest2
  case hy2 => intro W hSW; (try dsimp only at hSW); obtain ⟨e0, e1, e2, e3, e4, e5, e6, e7, e8, e9, e10⟩ := hSW; go_simp <;> with_reducible rfl
  try simp only [Act.put, lsa, lsb, lsc]
  refine EG_take 3 (v := ?v3) (by simp only [lga, lgb, lgc]; rfl) (by kernel_rfl) (by kernel_rfl) (by decide) (fun _ _ _ h => h) (Or.inl ⟨by rfl, ?hy3⟩) (KEEP.out _ (ext_drew _)) ?rest3
  case hy3 => intro W hSW; (try dsimp only at hSW); obtain ⟨e0, e1, e2, e3, e4, e5, e6, e7, e8, e9, e10⟩ := hSW; go_simp <;> with_reducible rfl
  try simp only [Act.put, lsa, lsb, lsc]
  refine EG_take 4 (v := ?v4) (by simp only [lga, lgb, lgc]; rfl) (by kernel_rfl) (by kernel_rfl) (by decide) (fun _ _ _ h => h) (Or.inl ⟨by rfl, ?hy4⟩) (KEEP.out _ (ext_drew _)) ?rest4
  case hy4 => intro W hSW; (try dsimp only at hSW); obtain ⟨e0, e1, e2, e3, e4, e5, e6, e7, e8, e9, e10⟩ := hSW; go_simp <;> with_reducible rfl
  try simp only [Act.put, lsa, lsb, lsc]
  refine EG_take 5 (v := ?v5) (by simp only [lga, lgb, lgc]; rfl) (by kernel_rfl) (by kernel_rfl) (by decide) (fun _ _ _ h => h) (Or.inl ⟨by rfl, ?hy5⟩) (KEEP.out _ (ext_drew _)) ?rest5
  case hy5 => intro W hSW; (try dsimp only at hSW); obtain ⟨e0, e1, e2, e3, e4, e5, e6, e7, e8, e9, e10⟩ := hSW; go_simp <;> with_reducible rfl
  try simp only [Act.put, lsa, lsb, lsc]
  refine EG_take 7 (v := ?v6) (by simp only [lga, lgb, lgc]; rfl) (by kernel_rfl) (by kernel_rfl) (by decide) (fun _ _ _ h => h) (Or.inl ⟨by rfl, ?hy6⟩) (KEEP.out _ (ext_drew _)) ?rest6
  case hy6 => intro W hSW; (try dsimp only at hSW); obtain ⟨e0, e1, e2, e3, e4, e5, e6, e7, e8, e9, e10⟩ := hSW; go_simp <;> with_reducible rfl
  try simp only [Act.put, lsa, lsb, lsc]
  have xd := ext_drew w3
  obtain ⟨wd, hwd⟩ : ∃ wd, w3.drew = wd := ⟨_, rfl⟩
  rw [hwd] at xd ⊢
  clear hwd
  apply pass5 (fun gq A1 d1 gs w => Ext w3 w ∧ OwnG okC w w3.heap.size 100 10 A1 nd d1 (cellsTM D) ∧ Blk w gs 100 #[.string rn, .int .i64 r.e.k, .int .i64 r.e.x.till, .bool (isOf r.e.x), .string sn, .int .i64 (setOf r.e.x).ty, .int .i64 (setOf r.e.x).cl, .int .i64 (setOf r.e.x).ttl, .slice r.A sl r.c, .int .i64 (rankOf r.e.x)])
  case main =>
    intro key0
    refine EG_two 1 8 (by kernel_rfl) (by simp only [lga, lgb, lgc]; rfl) (by simp only [lga, lgb, lgc]; rfl) (by decide) (by decide) ?h1q ?h2q
    case h1q =>
      intro K hK0
      have hK := hid hK0
      clear hK0
      go_simp
      have xq : Ext w3 (wd.alloc (.cells #[] 100)) := ext_trans xd (ext_alloc _ _)
      have dst : OwnG okC (wd.alloc (.cells #[] 100)) w3.heap.size 100 10 (some ⟨wd.heap.size, 0, none⟩) 0 0 [] := .inr ⟨wd.heap.size, [], rfl, xd.size, heap_alloc_new wd _, by simp, Nat.le_refl _, by simp [maxLen], by simp, by simp⟩
      obtain ⟨wq, hwq⟩ : ∃ wq, wd.alloc (.cells #[] 100) = wq := ⟨_, rfl⟩
      obtain ⟨gq, hgq⟩ : ∃ gq, wd.heap.size = gq := ⟨_, rfl⟩
      have HGQ := hid hgq
      have HWQ := hid hwq
      rw [hwq] at xq dst
      rw [hgq] at dst
      rw [hwq, hgq]
      clear hwq hgq
      refine hK.out _ _ (KEEP.out _ xq) ?_
      clear hK K
      try simp only [Act.put, lsa, lsb, lsc]
      refine EG_two 6 8 (by kernel_rfl) (by simp only [lga, lgb, lgc]; rfl) (by simp only [lga, lgb, lgc]; rfl) (by decide) (by decide) ?h3q ?h4q
      case h3q =>
        intro K hK0
        have hK := hid hK0
        clear hK0
        refine step_append_g (ok := okC) rfl (.tmp 17) (.tmp 21) 56 rfl w3.heap.size 100 i0 (.agg #[.string ⟨#[]⟩, .int .i64 0, .int .i64 0, .bool false, .string ⟨#[]⟩, .int .i64 0, .int .i64 0, .int .i64 0, .slice none 0 0, .int .i64 0]) 10 112 Try.underlying56 hi0 hz0 hz1 hz2 rfl (by decide) zeroT (fun _ h => h) (by rfl) dst (by rfl) (RD3.out.ext xq) (okC_all _) (by omega) (by unfold maxLen; omega) xq.size ?_
        intro A1 d1 w5 o1 g1 n1
        have x5 : Ext w3 w5 := below_of_grown xq xq.size g1 (fun q hq => (dst.lt q hq).1)
        rw [show 0 + nd = nd from by omega, List.nil_append] at o1
        rw [show 0 + nd = nd from by omega]
        refine hK.out _ _ (KEEP.out _ x5) ?_
        clear hK K
        try simp only [Act.put, lsa, lsb, lsc]
        refine EG_one 8 (by kernel_rfl) (by simp only [lga, lgb, lgc]; rfl) (by decide) ?_
        intro K hK0
        have hK := hid hK0
        clear hK0
        go_simp
        have xLa : Ext w3 (w5.alloc (.cells #[.string rn, .int .i64 r.e.k, .int .i64 r.e.x.till, .bool (isOf r.e.x), .string sn, .int .i64 (setOf r.e.x).ty, .int .i64 (setOf r.e.x).cl, .int .i64 (setOf r.e.x).ttl, .slice r.A sl r.c, .int .i64 (rankOf r.e.x)] 100)) := ext_trans x5 (ext_alloc _ _)
        have bLa := Blk.new w5 100 #[.string rn, .int .i64 r.e.k, .int .i64 r.e.x.till, .bool (isOf r.e.x), .string sn, .int .i64 (setOf r.e.x).ty, .int .i64 (setOf r.e.x).cl, .int .i64 (setOf r.e.x).ttl, .slice r.A sl r.c, .int .i64 (rankOf r.e.x)]
        have eLa := ext_alloc w5 (.cells #[.string rn, .int .i64 r.e.k, .int .i64 r.e.x.till, .bool (isOf r.e.x), .string sn, .int .i64 (setOf r.e.x).ty, .int .i64 (setOf r.e.x).cl, .int .i64 (setOf r.e.x).ttl, .slice r.A sl r.c, .int .i64 (rankOf r.e.x)] 100)
        obtain ⟨wla, hwla⟩ : ∃ wl, w5.alloc (.cells #[.string rn, .int .i64 r.e.k, .int .i64 r.e.x.till, .bool (isOf r.e.x), .string sn, .int .i64 (setOf r.e.x).ty, .int .i64 (setOf r.e.x).cl, .int .i64 (setOf r.e.x).ttl, .slice r.A sl r.c, .int .i64 (rankOf r.e.x)] 100) = wl := ⟨_, rfl⟩
        obtain ⟨gla, hgla⟩ : ∃ gl, w5.heap.size = gl := ⟨_, rfl⟩
        rw [hwla] at xLa bLa eLa
        rw [hgla] at bLa
        rw [hwla, hgla]
        have HGLa := hid hgla
        clear hwla hgla
        refine hK.out _ _ (KEEP.out _ xLa) ?_
        clear hK K
        try simp only [Act.put, lsa, lsb, lsc]
        exact key0 gq _ _ _ _ ⟨xLa, o1.ext eLa, bLa⟩
      case h4q =>
        intro K hK0
        have hK := hid hK0
        clear hK0
        go_simp
        have xLb : Ext w3 (wq.alloc (.cells #[.string rn, .int .i64 r.e.k, .int .i64 r.e.x.till, .bool (isOf r.e.x), .string sn, .int .i64 (setOf r.e.x).ty, .int .i64 (setOf r.e.x).cl, .int .i64 (setOf r.e.x).ttl, .slice r.A sl r.c, .int .i64 (rankOf r.e.x)] 100)) := ext_trans xq (ext_alloc _ _)
        have bLb := Blk.new wq 100 #[.string rn, .int .i64 r.e.k, .int .i64 r.e.x.till, .bool (isOf r.e.x), .string sn, .int .i64 (setOf r.e.x).ty, .int .i64 (setOf r.e.x).cl, .int .i64 (setOf r.e.x).ttl, .slice r.A sl r.c, .int .i64 (rankOf r.e.x)]
        have eLb := ext_alloc wq (.cells #[.string rn, .int .i64 r.e.k, .int .i64 r.e.x.till, .bool (isOf r.e.x), .string sn, .int .i64 (setOf r.e.x).ty, .int .i64 (setOf r.e.x).cl, .int .i64 (setOf r.e.x).ttl, .slice r.A sl r.c, .int .i64 (rankOf r.e.x)] 100)
        obtain ⟨wlb, hwlb⟩ : ∃ wl, wq.alloc (.cells #[.string rn, .int .i64 r.e.k, .int .i64 r.e.x.till, .bool (isOf r.e.x), .string sn, .int .i64 (setOf r.e.x).ty, .int .i64 (setOf r.e.x).cl, .int .i64 (setOf r.e.x).ttl, .slice r.A sl r.c, .int .i64 (rankOf r.e.x)] 100) = wl := ⟨_, rfl⟩
        obtain ⟨glb, hglb⟩ : ∃ gl, wq.heap.size = gl := ⟨_, rfl⟩
        rw [hwlb] at xLb bLb eLb
        rw [hglb] at bLb
        rw [hwlb, hglb]
        have HGLb := hid hglb
        clear hwlb hglb
        refine hK.out _ _ (KEEP.out _ xLb) ?_
        clear hK K
        try simp only [Act.put, lsa, lsb, lsc]
        refine EG_one 6 (by kernel_rfl) (by simp only [lga, lgb, lgc]; rfl) (by decide) ?_
        intro K hK0
        have hK := hid hK0
        clear hK0
        refine step_append_g (ok := okC) rfl (.tmp 17) (.tmp 21) 56 rfl w3.heap.size 100 i0 (.agg #[.string ⟨#[]⟩, .int .i64 0, .int .i64 0, .bool false, .string ⟨#[]⟩, .int .i64 0, .int .i64 0, .int .i64 0, .slice none 0 0, .int .i64 0]) 10 112 Try.underlying56 hi0 hz0 hz1 hz2 rfl (by decide) zeroT (fun _ h => h) (by rfl) (dst.ext eLb) (by rfl) (RD3.out.ext xLb) (okC_all _) (by omega) (by unfold maxLen; omega) xLb.size ?_
        intro A1 d1 w5 o1 g1 n1
        have x5 : Ext w3 w5 := below_of_grown xLb xLb.size g1 (fun q hq => ((dst.ext eLb).lt q hq).1)
        rw [show 0 + nd = nd from by omega, List.nil_append] at o1
        rw [show 0 + nd = nd from by omega]
        have bL5 := bLb.grown g1 (fun e => by have h1 := (dst.lt _ e.symm).2; have h2 := HGLb.out; omega)
        refine hK.out _ _ (KEEP.out _ x5) ?_
        clear hK K
        try simp only [Act.put, lsa, lsb, lsc]
        exact key0 gq _ _ _ _ ⟨x5, o1, bL5⟩
    case h2q =>
      intro K hK0
      have hK := hid hK0
      clear hK0
      go_simp
      have xLc : Ext w3 (wd.alloc (.cells #[.string rn, .int .i64 r.e.k, .int .i64 r.e.x.till, .bool (isOf r.e.x), .string sn, .int .i64 (setOf r.e.x).ty, .int .i64 (setOf r.e.x).cl, .int .i64 (setOf r.e.x).ttl, .slice r.A sl r.c, .int .i64 (rankOf r.e.x)] 100)) := ext_trans xd (ext_alloc _ _)
      have bLc := Blk.new wd 100 #[.string rn, .int .i64 r.e.k, .int .i64 r.e.x.till, .bool (isOf r.e.x), .string sn, .int .i64 (setOf r.e.x).ty, .int .i64 (setOf r.e.x).cl, .int .i64 (setOf r.e.x).ttl, .slice r.A sl r.c, .int .i64 (rankOf r.e.x)]
      have eLc := ext_alloc wd (.cells #[.string rn, .int .i64 r.e.k, .int .i64 r.e.x.till, .bool (isOf r.e.x), .string sn, .int .i64 (setOf r.e.x).ty, .int .i64 (setOf r.e.x).cl, .int .i64 (setOf r.e.x).ttl, .slice r.A sl r.c, .int .i64 (rankOf r.e.x)] 100)
      obtain ⟨wlc, hwlc⟩ : ∃ wl, wd.alloc (.cells #[.string rn, .int .i64 r.e.k, .int .i64 r.e.x.till, .bool (isOf r.e.x), .string sn, .int .i64 (setOf r.e.x).ty, .int .i64 (setOf r.e.x).cl, .int .i64 (setOf r.e.x).ttl, .slice r.A sl r.c, .int .i64 (rankOf r.e.x)] 100) = wl := ⟨_, rfl⟩
      obtain ⟨glc, hglc⟩ : ∃ gl, wd.heap.size = gl := ⟨_, rfl⟩
      rw [hwlc] at xLc bLc eLc
      rw [hglc] at bLc
      rw [hwlc, hglc]
      have HGLc := hid hglc
      clear hwlc hglc
      refine hK.out _ _ (KEEP.out _ xLc) ?_
      clear hK K
      try simp only [Act.put, lsa, lsb, lsc]
      refine EG_one 1 (by kernel_rfl) (by simp only [lga, lgb, lgc]; rfl) (by decide) ?_
      intro K hK0
      have hK := hid hK0
      clear hK0
      go_simp
      have xq : Ext w3 (wlc.alloc (.cells #[] 100)) := ext_trans xLc (ext_alloc _ _)
      have dst : OwnG okC (wlc.alloc (.cells #[] 100)) w3.heap.size 100 10 (some ⟨wlc.heap.size, 0, none⟩) 0 0 [] := .inr ⟨wlc.heap.size, [], rfl, xLc.size, heap_alloc_new wlc _, by simp, Nat.le_refl _, by simp [maxLen], by simp, by simp⟩
      obtain ⟨wq, hwq⟩ : ∃ wq, wlc.alloc (.cells #[] 100) = wq := ⟨_, rfl⟩
      obtain ⟨gq, hgq⟩ : ∃ gq, wlc.heap.size = gq := ⟨_, rfl⟩
      have HGQ := hid hgq
      have HWQ := hid hwq
      rw [hwq] at xq dst
      rw [hgq] at dst
      rw [hwq, hgq]
      have bq := bLc.ext (show Ext wlc wq from by rw [← hwq]; exact ext_alloc _ _)
      clear hwq hgq
      refine hK.out _ _ (KEEP.out _ xq) ?_
      clear hK K
      try simp only [Act.put, lsa, lsb, lsc]
      refine EG_one 6 (by kernel_rfl) (by simp only [lga, lgb, lgc]; rfl) (by decide) ?_
      intro K hK0
      have hK := hid hK0
      clear hK0
      refine step_append_g (ok := okC) rfl (.tmp 17) (.tmp 21) 56 rfl w3.heap.size 100 i0 (.agg #[.string ⟨#[]⟩, .int .i64 0, .int .i64 0, .bool false, .string ⟨#[]⟩, .int .i64 0, .int .i64 0, .int .i64 0, .slice none 0 0, .int .i64 0]) 10 112 Try.underlying56 hi0 hz0 hz1 hz2 rfl (by decide) zeroT (fun _ h => h) (by rfl) dst (by rfl) (RD3.out.ext xq) (okC_all _) (by omega) (by unfold maxLen; omega) xq.size ?_
      intro A1 d1 w5 o1 g1 n1
      have x5 : Ext w3 w5 := below_of_grown xq xq.size g1 (fun q hq => (dst.lt q hq).1)
      rw [show 0 + nd = nd from by omega, List.nil_append] at o1
      rw [show 0 + nd = nd from by omega]
      have bL5 := bq.grown g1 (fun e => by have h1 : glc = gq := Option.some.inj e; have h2 := HGQ.out; have h3 := bLc.lt; omega)
      refine hK.out _ _ (KEEP.out _ x5) ?_
      clear hK K
      try simp only [Act.put, lsa, lsb, lsc]
      exact key0 gq _ _ _ _ ⟨x5, o1, bL5⟩
  case key =>
    rintro gq A1 d1 gs w5 ⟨x5, o1, b5⟩
    have X5 := hid x5
    have O1 := hid o1
    have R5 : Hid (RdG w5 10 (some ⟨gs, 0, none⟩) 1 1 (cellsT r)) := hid (rdT_one (by rw [HE1.out]; exact b5))
    clear x5 o1 b5
    refine EG_one 9 (by kernel_rfl) (by simp only [lga, lgb, lgc]; rfl) (by decide) ?_
    intro K hK0
    have hK := hid hK0
    clear hK0
    refine step_append_g (ok := okC) rfl (.tmp 22) (.tmp 24) 56 rfl w3.heap.size 100 i0 (.agg #[.string ⟨#[]⟩, .int .i64 0, .int .i64 0, .bool false, .string ⟨#[]⟩, .int .i64 0, .int .i64 0, .int .i64 0, .slice none 0 0, .int .i64 0]) 10 112 Try.underlying56 hi0 hz0 hz1 hz2 rfl (by decide) zeroT (fun _ h => h) (by rfl) O1.out (by rfl) R5.out (okC_cells r) (by omega) (by unfold maxLen; omega) X5.out.size ?_
    intro A2 d2 w6 o2 g2 n2
    have X6 : Hid (Ext w3 w6) := hid (below_of_grown X5.out X5.out.size g2 (fun q hq => (O1.out.lt q hq).1))
    obtain ⟨n1, hn1⟩ : ∃ n1, nd + 1 = n1 := ⟨_, rfl⟩
    rw [hn1] at o2 ⊢
    have O2 := hid o2
    have HN1 := hid hn1
    clear g2 n2 o2 hn1
    refine hK.out _ _ (KEEP.out _ X6.out) ?_
    clear hK K
    try simp only [Act.put, lsa, lsb, lsc]
    refine EG_take 10 (v := ?v7) (by simp only [lga, lgb, lgc]; rfl) (by kernel_rfl) (by kernel_rfl) (by decide) (fun _ _ _ h => h) (Or.inl ⟨by rfl, ?hy7⟩) (KEEP.out _ X6.out) ?rest7
    case hy7 => intro W hSW; (try dsimp only at hSW); obtain ⟨e0, e1, e2, e3, e4, e5, e6, e7, e8, e9, e10⟩ := hSW; go_simp <;> with_reducible rfl
    try simp only [Act.put, lsa, lsb, lsc]
    refine EG_take 11 (v := ?v8) (by simp only [lga, lgb, lgc]; rfl) (by kernel_rfl) (by kernel_rfl) (by decide) (fun _ _ _ h => h) (Or.inl ⟨by rfl, ?hy8⟩) (KEEP.out _ X6.out) ?rest8
    case hy8 => intro W hSW; (try dsimp only at hSW); obtain ⟨e0, e1, e2, e3, e4, e5, e6, e7, e8, e9, e10⟩ := hSW; go_simp <;> with_reducible rfl
    try simp only [Act.put, lsa, lsb, lsc]
    refine EG_end (by kernel_rfl) (by simp only [lga, lgb, lgc]; rfl) ?_
    intro K hK0
    have hK := hid hK0
    clear hK0
    go_simp
    have e0 := (KEEP.out _ X6.out).1
    have ef := FR.out _ X6.out
    go_simp
    refine hK.out _ _ ?_
    clear hK K
    refine NoPanic.normal ?_
    have hlen : (D ++ [r]).length = n1 := by rw [List.length_append, HND.out]; exact HN1.out
    have an := H3.out.anew X6.out (A' := A2) (c' := d2) (T' := D ++ [r]) (by rw [hlen, cellsTM_app, show cellsTM [r] = cellsT r from by simp [cellsTM]]; exact O2.out) (fun t ht => by
      rcases List.mem_append.1 ht with h | h
      · exact ⟨H3.out.d t h, H3.out.ne.2 t h⟩
      · obtain rfl := List.mem_singleton.1 h
        exact ⟨rdG_off HR.out Z3.out (fun h0 k hk e => HRN.out h0 (by rw [hk, e])), HRN.out⟩)
    rw [hlen] at an
    obtain ⟨w7, hw7⟩ : ∃ w7, w6.setCell ⟨g, 1, none⟩ (.slice A2 n1 d2) = w7 := ⟨_, rfl⟩
    rw [hw7] at an ⊢
    have H7 := hid an.1
    have Z7 := hid (Z3.out.trans an.2 (fun k _ e => e))
    have HLEN := hid hlen
    have LT7 := hid O2.out.lt
    have B7 := hid ((B3.out.ext X6.out).shy (set_shy g 1 (.slice A2 n1 d2) w6) (fun e => hgg e.symm))
    have R7 := hid ((BR.out.ext X6.out).shy (set_shy g 1 (.slice A2 n1 d2) w6) (fun e => hgg2 e.symm))
    rw [hw7] at B7 R7
    clear an hw7 hlen X6 O2 FR KEEP R5 O1 X5
    have bc0 := B7.out.cell 0
    have rc0 := R7.out.cell 0
    have bc1 := B7.out.cell 1
    have rc1 := R7.out.cell 1
    have bc2 := B7.out.cell 2
    have rc2 := R7.out.cell 2
    have bc3 := B7.out.cell 3
    have rc3 := R7.out.cell 3
    have bc4 := B7.out.cell 4
    have rc4 := R7.out.cell 4
    have bc5 := B7.out.cell 5
    have rc5 := R7.out.cell 5
    have bc6 := B7.out.cell 6
    have rc6 := R7.out.cell 6
    have bc7 := B7.out.cell 7
    have rc7 := R7.out.cell 7
    have bc8 := B7.out.cell 8
    have rc8 := R7.out.cell 8
    have bc9 := B7.out.cell 9
    have rc9 := R7.out.cell 9
    simp at bc0 rc0 bc1 rc1 bc2 rc2 bc3 rc3 bc4 rc4 bc5 rc5 bc6 rc6 bc7 rc7 bc8 rc8 bc9 rc9
    have rf := R7.out.frozen
    go_wp2_with fail
    have sF : Shy (fun k => k = gr) w7 ((((((((((w7.setCell ⟨gr, 0, none⟩ (.string rn)).setCell ⟨gr, 1, none⟩ (.int .i64 r.e.k)).setCell ⟨gr, 2, none⟩ (.int .i64 r.e.x.till)).setCell ⟨gr, 3, none⟩ (.bool (isOf r.e.x))).setCell ⟨gr, 4, none⟩ (.string sn)).setCell ⟨gr, 5, none⟩ (.int .i64 (setOf r.e.x).ty)).setCell ⟨gr, 6, none⟩ (.int .i64 (setOf r.e.x).cl)).setCell ⟨gr, 7, none⟩ (.int .i64 (setOf r.e.x).ttl)).setCell ⟨gr, 8, none⟩ (.slice r.A sl r.c)).setCell ⟨gr, 9, none⟩ (.int .i64 (rankOf r.e.x))) := (((((((((((Shy.refl w7 (U := fun k => k = gr)).set (b := gr) (fun _ => rfl) 0 (.string rn)).set (b := gr) (fun _ => rfl) 1 (.int .i64 r.e.k)).set (b := gr) (fun _ => rfl) 2 (.int .i64 r.e.x.till)).set (b := gr) (fun _ => rfl) 3 (.bool (isOf r.e.x))).set (b := gr) (fun _ => rfl) 4 (.string sn)).set (b := gr) (fun _ => rfl) 5 (.int .i64 (setOf r.e.x).ty)).set (b := gr) (fun _ => rfl) 6 (.int .i64 (setOf r.e.x).cl)).set (b := gr) (fun _ => rfl) 7 (.int .i64 (setOf r.e.x).ttl)).set (b := gr) (fun _ => rfl) 8 (.slice r.A sl r.c)).set (b := gr) (fun _ => rfl) 9 (.int .i64 (rankOf r.e.x)))
    have bF := ((((((((((R7.out.set_ 0 (.string rn)).set_ 1 (.int .i64 r.e.k)).set_ 2 (.int .i64 r.e.x.till)).set_ 3 (.bool (isOf r.e.x))).set_ 4 (.string sn)).set_ 5 (.int .i64 (setOf r.e.x).ty)).set_ 6 (.int .i64 (setOf r.e.x).cl)).set_ 7 (.int .i64 (setOf r.e.x).ttl)).set_ 8 (.slice r.A sl r.c)).set_ 9 (.int .i64 (rankOf r.e.x)))
    obtain ⟨wF, hwF⟩ : ∃ wF, ((((((((((w7.setCell ⟨gr, 0, none⟩ (.string rn)).setCell ⟨gr, 1, none⟩ (.int .i64 r.e.k)).setCell ⟨gr, 2, none⟩ (.int .i64 r.e.x.till)).setCell ⟨gr, 3, none⟩ (.bool (isOf r.e.x))).setCell ⟨gr, 4, none⟩ (.string sn)).setCell ⟨gr, 5, none⟩ (.int .i64 (setOf r.e.x).ty)).setCell ⟨gr, 6, none⟩ (.int .i64 (setOf r.e.x).cl)).setCell ⟨gr, 7, none⟩ (.int .i64 (setOf r.e.x).ttl)).setCell ⟨gr, 8, none⟩ (.slice r.A sl r.c)).setCell ⟨gr, 9, none⟩ (.int .i64 (rankOf r.e.x))) = wF := ⟨_, rfl⟩
    rw [hwF] at sF bF ⊢
    clear hwF rf bc0 rc0 bc1 rc1 bc2 rc2 bc3 rc3 bc4 rc4 bc5 rc5 bc6 rc6 bc7 rc7 bc8 rc8 bc9 rc9
    have f0 := bF.cell 0
    have f1 := bF.cell 1
    have f2 := bF.cell 2
    have f3 := bF.cell 3
    have f4 := bF.cell 4
    have f5 := bF.cell 5
    have f6 := bF.cell 6
    have f7 := bF.cell 7
    have f8 := bF.cell 8
    have f9 := bF.cell 9
    simp at f0 f1 f2 f3 f4 f5 f6 f7 f8 f9
    refine bodyPost_ret (by simp [results, Try.results53, go_sem, f0, f1, f2, f3, f4, f5, f6, f7, f8, f9]; rfl) rfl ?_
    refine ⟨A2, d2, by rw [HE1.out], H7.out.off sF hgg2 (fun _ k hk e => ?_) (fun t ht h0 k hk e => ?_), Z7.out.trans sF (fun k hk e => ?_), fun k hk => Nat.le_trans Z3.out.size (LT7.out k hk).1⟩
    · have h1 := (LT7.out k hk).1
      have h2 := BR.out.lt
      omega
    · have h2 : t ∈ T := by
        rcases List.mem_append.1 ht with h | h
        · exact HD.out.2 t h
        · obtain rfl := List.mem_singleton.1 h
          exact hrm
      obtain ⟨b', h3, h4⟩ := (H.out.d t h2).lt h0
      rw [hk] at h3
      have h5 := Option.some.inj h3
      have h6 := HGR.out
      omega
    · have h6 := HGR.out
      omega
end
end Go.Proofs.Ytcddfenhkljpeaa

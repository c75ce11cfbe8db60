import Derived.Test.YtcddfenhkljpeaaChcBc
import Derived.Test.YtcddfenhkljpeaaCsB
/- Layer 23: the document's out. (Printed by gen_chcbd.py.) -/
namespace Go.Proofs.Ytcddfenhkljpeaa
open Go.BK Go.BK.CH Go.BK.NM Go.RowKit Go.Maps
set_option linter.unusedVariables false
set_option linter.unusedSimpArgs false
theorem info_thing : (Try.prog.info? 100).map (fun i => (i.zero, i.size, i.bytes)) = some (some ((.agg #[.string ⟨#[]⟩, .int .i64 0, .int .i64 0, .bool false, .string ⟨#[]⟩, .int .i64 0, .int .i64 0, .int .i64 0, .slice none 0 0, .int .i64 0] : Value)), 10, 112) := by kernel_rfl
theorem info_partsT {o : Option TypeInfo} {z : Option Value} {s b : Nat} (h : o.map (fun i => (i.zero, i.size, i.bytes)) = some (z, s, b)) : ∃ i, o = some i ∧ i.zero = z ∧ i.size = s ∧ i.bytes = b := by
  cases o with
  | none => cases h
  | some i => simp at h; exact ⟨i, rfl, h.1, h.2.1, h.2.2⟩
def okC (v : Value) : Prop := v.oneCell' = true
theorem zeroT : ∀ u ∈ (.agg #[.string ⟨#[]⟩, .int .i64 0, .int .i64 0, .bool false, .string ⟨#[]⟩, .int .i64 0, .int .i64 0, .int .i64 0, .slice none 0 0, .int .i64 0] : Value).cells.toList, okC u := by
  have h : ((.agg #[.string ⟨#[]⟩, .int .i64 0, .int .i64 0, .bool false, .string ⟨#[]⟩, .int .i64 0, .int .i64 0, .int .i64 0, .slice none 0 0, .int .i64 0] : Value).cells.toList.all (fun v => v.oneCell')) = true := by rfl
  exact fun u hu => List.all_eq_true.1 h u hu
theorem okC_cells (m : TRow) : ∀ u ∈ cellsT m, okC u := by
  intro u hu
  simp [cellsT] at hu
  rcases hu with rfl | rfl | rfl | rfl | rfl | rfl | rfl | rfl | rfl | rfl <;> rfl
theorem okC_all (T : List TRow) : ∀ u ∈ cellsTM T, okC u := by
  intro u hu
  obtain ⟨m, hm, h⟩ := List.mem_flatMap.1 hu
  exact okC_cells m u h
theorem rdG_off {w w' : World} {U : Nat → Prop} {size n c : Nat} {A : Option Addr} {xs : List Value} (h : RdG w size A n c xs) (s : Shy U w w') (hA : 0 < n → ∀ k, blk A = some k → ¬ U k) : RdG w' size A n c xs := by
  refine ⟨h.1, h.2.1, h.2.2.1, fun h0 => ?_⟩
  exact (s.rdG h (hA h0)).2.2.2 h0
theorem cellsTM_take (T : List TRow) (i : Nat) (h : i ≤ T.length) : cellsTM (T.take i) = (cellsTM T).take (i * 10) := by
  have e : cellsTM T = cellsTM (T.take i) ++ cellsTM (T.drop i) := by rw [← cellsTM_app, List.take_append_drop]
  rw [e, List.take_left']
  rw [cellsTM_len, List.length_take]
  omega
theorem cellsTM_drop (T : List TRow) (i : Nat) (h : i ≤ T.length) : cellsTM (T.drop i) = (cellsTM T).drop (i * 10) := by
  have e : cellsTM T = cellsTM (T.take i) ++ cellsTM (T.drop i) := by rw [← cellsTM_app, List.take_append_drop]
  rw [e, List.drop_left']
  rw [cellsTM_len, List.length_take]
  omega
section
variable {w w' : World} {g : Nat} {most now : Int} {A : Option Addr} {c : Nat} {T : List TRow}
def OutD (w w' : World) (g : Nat) (most now : Int) (T : List TRow) (e : Ending) : Prop :=
  ∃ A c, e = .returned (.tuple #[]) ∧ RefC w' g most now A c T ∧ Shy (fun k => k = g) w w' ∧ ∀ k, blk A = some k → w.heap.size ≤ k
/-- The list is laid anew. -/
theorem RefC.anew (h : RefC w g most now A c T) {w3 : World} (x : Ext w w3) {A' : Option Addr} {c' : Nat} {T' : List TRow} (o : OwnG okC w3 w.heap.size 100 10 A' T'.length c' (cellsTM T'))
    (hT : ∀ t ∈ T', RdG w 1 t.A (setOf t.e.x).data.length t.c (tvs (setOf t.e.x).data) ∧ (0 < (setOf t.e.x).data.length → blk t.A ≠ some g)) :
    RefC (w3.setCell ⟨g, 1, none⟩ (.slice A' T'.length c')) g most now A' c' T' ∧ Shy (fun k => k = g) w (w3.setCell ⟨g, 1, none⟩ (.slice A' T'.length c')) := by
  have hg := h.b.lt
  have s := set_shy g 1 (.slice A' T'.length c') w3
  have hA : ∀ k, blk A' = some k → ¬ k = g := fun k hk e => by have := (o.lt k hk).1; omega
  refine ⟨⟨?_, rdG_off o.rd s (fun _ => hA), fun t ht => rdG_off ((hT t ht).1.ext x) s (fun h0 k hk e => (hT t ht).2 h0 (by rw [hk, e])), ⟨fun _ e => hA g e rfl, fun t ht => (hT t ht).2⟩⟩, (Shy.of_ext x).trans s (fun k _ e => e)⟩
  have := (h.b.ext x).set_ 1 (.slice A' T'.length c')
  simpa using this
set_option maxHeartbeats 4000000 in
set_option maxRecDepth 100000 in
theorem rout (h : RefC w g most now A c T) {i : Nat} (hi : i < T.length) (hT : T.length ≤ 5000) :
    Calls Try.prog 51 #[pt g, .int .i64 i] w fun e w' => OutD w w' g most now (T.take i ++ T.drop (i + 1)) e := by
  obtain ⟨n, hn⟩ : ∃ n, T.length = n := ⟨_, rfl⟩
  obtain ⟨b, o, rfl, hb, _⟩ := h.at_ (by omega)
  obtain ⟨j, hj⟩ : ∃ j, i + 1 = j := ⟨_, rfl⟩
  have hnc := h.r.cap
  rw [hn] at hnc hi hT
  have c1 : w.cell? ⟨g, 1, none⟩ = some (.slice (some ⟨b, o, none⟩) n c) := by have := h.b.cell 1; rw [hn] at this; exact this
  have w1 : wrap64 ((i : Int) + 1) = (j : Int) := by rw [show (i : Int) + 1 = (j : Int) from by omega]; exact IntWalk.wrap64_in _ (by omega)
  have w2 : IntKind.i64.wrap ((i : Int) + 1) = (j : Int) := by rw [show (i : Int) + 1 = (j : Int) from by omega]; exact IntWalk.i64_in _ (by omega)
  obtain ⟨B1, hB1⟩ : ∃ B1, (if c = j then (some ⟨b, o, none⟩ : Option Addr) else some ⟨b, o + j * 10, none⟩) = B1 := ⟨_, rfl⟩
  have r1 : RdG w 10 (some ⟨b, o, none⟩) i c (cellsTM (T.take i)) := by
    have := h.r.cut (i := 0) (j := i) (A' := some ⟨b, o, none⟩) (Nat.zero_le _) (by omega) (fun _ => by simp [Addr.add])
    rw [cellsTM_take _ _ (by omega)]
    simpa using this
  have r2 : RdG w 10 B1 (n - j) (c - j) (cellsTM (T.drop j)) := by
    rcases Nat.lt_or_ge j n with hjn | hjn
    · have := h.r.cut (i := j) (j := n) (A' := B1) (by omega) (by omega) (fun _ => by rw [← hB1, if_neg (by omega)]; simp [Addr.add]; omega)
      rw [cellsTM_drop _ _ (by omega)]
      rwa [List.take_of_length_le (by rw [cellsTM_len]; omega)] at this
    · rw [List.drop_of_length_le (by omega), show n - j = 0 from by omega]
      exact RdG.zero _ _ _ _ (by have := hnc.2; unfold maxLen at *; omega)
  have hlen : (T.take i ++ T.drop j).length = i + (n - j) := by rw [List.length_append, List.length_take, List.length_drop]; omega
  obtain ⟨i0, hi0, hz0, hz1, hz2⟩ := info_partsT info_thing
  have KEEP : Hid (∀ W, Ext w W → W.cell? ⟨g, 1, none⟩ = some (.slice (some ⟨b, o, none⟩) n c)) := hid (fun W y => (y.cell (p := ⟨g, 1, none⟩) h.b.lt).trans c1)
  have k1 : i ≤ c := by omega
  have k2 : j ≤ n := by omega
  have k3 : j ≤ c := by omega
  have H := hid h
  have HN := hid hn
  have HJ := hid hj
  have R1 := hid r1
  have R2 := hid r2
  have HLEN := hid hlen
  have FR : Hid (∀ W, Ext w W → ∀ q, W.frozen? ⟨g, q, none⟩ = false) := hid (fun W y => (h.b.ext y).frozen)
  rw [hj]
  simp only [pt]
  clear h hn hj r1 r2 hlen c1
  go_enter Try.func51, Try.ntmps51
  go_upto_region 0 with (fail)
  refine wp_region_noPanic ?_
  refine region_E (S := fun W => W.cell? ⟨g, 1, none⟩ = some (.slice (some ⟨b, o, none⟩) n c)) 19 (by kernel_rfl) (by kernel_rfl) (by kernel_rfl) ?_
  refine EG_take 0 (v := ?v1) (by simp only [lga, lgb, lgc]; rfl) (by kernel_rfl) (by kernel_rfl) (by decide) (fun _ _ _ h => h) (Or.inl ⟨by rfl, ?hy1⟩) (KEEP.out _ (ext_drew _)) ?rest1
  case hy1 => intro W hSW; (try dsimp only at hSW); obtain e0 := hSW; go_simp <;> with_reducible rfl
  try simp only [Act.put, lsa, lsb, lsc]
  refine EG_take 2 (v := ?v2) (by simp only [lga, lgb, lgc]; rfl) (by kernel_rfl) (by kernel_rfl) (by decide) (fun _ _ _ h => h) (Or.inl ⟨by rfl, ?hy2⟩) (KEEP.out _ (ext_drew _)) ?rest2
  case hy2 => intro W hSW; (try dsimp only at hSW); obtain e0 := hSW; go_simp <;> with_reducible rfl
  try simp only [Act.put, lsa, lsb, lsc]
  refine EG_take 3 (v := ?v3) (by simp only [lga, lgb, lgc]; rfl) (by kernel_rfl) (by kernel_rfl) (by decide) (fun _ _ _ h => h) (Or.inl ⟨by rfl, ?hy3⟩) (KEEP.out _ (ext_drew _)) ?rest3
  case hy3 => intro W hSW; (try dsimp only at hSW); obtain e0 := hSW; go_simp <;> with_reducible rfl
  try simp only [Act.put, lsa, lsb, lsc]
  refine EG_take 4 (v := ?v4) (by simp only [lga, lgb, lgc]; rfl) (by kernel_rfl) (by kernel_rfl) (by decide) (fun _ _ _ h => h) (Or.inl ⟨by rfl, ?hy4⟩) (KEEP.out _ (ext_drew _)) ?rest4
  case hy4 => intro W hSW; (try dsimp only at hSW); obtain e0 := hSW; go_simp <;> with_reducible rfl
  try simp only [Act.put, lsa, lsb, lsc]
  refine EG_take 5 (v := ?v5) (by simp only [lga, lgb, lgc]; rfl) (by kernel_rfl) (by kernel_rfl) (by decide) (fun _ _ _ h => h) (Or.inl ⟨by rfl, ?hy5⟩) (KEEP.out _ (ext_drew _)) ?rest5
  case hy5 => intro W hSW; (try dsimp only at hSW); obtain e0 := hSW; go_simp <;> with_reducible rfl
  try simp only [Act.put, lsa, lsb, lsc]
  refine EG_take 6 (v := ?v6) (by simp only [lga, lgb, lgc]; rfl) (by kernel_rfl) (by kernel_rfl) (by decide) (fun _ _ _ h => h) (Or.inl ⟨by rfl, ?hy6⟩) (KEEP.out _ (ext_drew _)) ?rest6
  case hy6 => intro W hSW; (try dsimp only at hSW); obtain e0 := hSW; go_simp <;> with_reducible rfl
  try simp only [Act.put, lsa, lsb, lsc]
  refine EG_take 7 (v := ?v7) (by simp only [lga, lgb, lgc]; rfl) (by kernel_rfl) (by kernel_rfl) (by decide) (fun _ _ _ h => h) (Or.inl ⟨by rfl, ?hy7⟩) (KEEP.out _ (ext_drew _)) ?rest7
  case hy7 => intro W hSW; (try dsimp only at hSW); obtain e0 := hSW; go_simp <;> with_reducible rfl
  try simp only [Act.put, lsa, lsb, lsc]
  refine EG_take 9 (v := ?v8) (by simp only [lga, lgb, lgc]; rfl) (by kernel_rfl) (by kernel_rfl) (by decide) (fun _ _ _ h => h) (Or.inl ⟨by rfl, ?hy8⟩) (KEEP.out _ (ext_drew _)) ?rest8
  case hy8 => intro W hSW; (try dsimp only at hSW); obtain e0 := hSW; go_simp <;> with_reducible rfl
  try simp only [Act.put, lsa, lsb, lsc]
  refine EG_take 10 (v := ?v9) (by simp only [lga, lgb, lgc]; rfl) (by kernel_rfl) (by kernel_rfl) (by decide) (fun _ _ _ h => h) (Or.inl ⟨by rfl, ?hy9⟩) (KEEP.out _ (ext_drew _)) ?rest9
  case hy9 => intro W hSW; (try dsimp only at hSW); obtain e0 := hSW; go_simp <;> with_reducible rfl
  try simp only [Act.put, lsa, lsb, lsc]
  refine EG_take 11 (v := ?v10) (by simp only [lga, lgb, lgc]; rfl) (by kernel_rfl) (by kernel_rfl) (by decide) (fun _ _ _ h => h) (Or.inl ⟨by rfl, ?hy10⟩) (KEEP.out _ (ext_drew _)) ?rest10
  case hy10 => intro W hSW; (try dsimp only at hSW); obtain e0 := hSW; go_simp <;> with_reducible rfl
  try simp only [Act.put, lsa, lsb, lsc]
  refine EG_take 12 (v := ?v11) (by simp only [lga, lgb, lgc]; rfl) (by kernel_rfl) (by kernel_rfl) (by decide) (fun _ _ _ h => h) (Or.inl ⟨by rfl, ?hy11⟩) (KEEP.out _ (ext_drew _)) ?rest11
  case hy11 => intro W hSW; (try dsimp only at hSW); obtain e0 := hSW; go_simp <;> with_reducible rfl
  try simp only [Act.put, lsa, lsb, lsc]
  refine EG_take 13 (v := ?v12) (by simp only [lga, lgb, lgc]; rfl) (by kernel_rfl) (by kernel_rfl) (by decide) (fun _ _ _ h => h) (Or.inl ⟨by rfl, ?hy12⟩) (KEEP.out _ (ext_drew _)) ?rest12
  case hy12 => intro W hSW; (try dsimp only at hSW); obtain e0 := hSW; go_simp <;> with_reducible rfl
  try simp only [Act.put, lsa, lsb, lsc]
  refine EG_take 14 (v := ?v13) (by simp only [lga, lgb, lgc]; rfl) (by kernel_rfl) (by kernel_rfl) (by decide) (fun _ _ _ h => h) (Or.inl ⟨by rfl, ?hy13⟩) (KEEP.out _ (ext_drew _)) ?rest13
  case hy13 => intro W hSW; (try dsimp only at hSW); obtain e0 := hSW; go_simp <;> with_reducible rfl
  try simp only [Act.put, lsa, lsb, lsc]
  refine EG_take 15 (v := ?v14) (by simp only [lga, lgb, lgc]; rfl) (by kernel_rfl) (by kernel_rfl) (by decide) (fun _ _ _ h => h) (Or.inl ⟨by rfl, ?hy14⟩) (KEEP.out _ (ext_drew _)) ?rest14
  case hy14 => intro W hSW; (try dsimp only at hSW); obtain e0 := hSW; go_simp <;> with_reducible rfl
  try simp only [Act.put, lsa, lsb, lsc]
  refine EG_one 1 (by kernel_rfl) (by simp only [lga, lgb, lgc]; rfl) (by decide) ?_
  intro K hK0
  have hK := hid hK0
  clear hK0
  go_simp
  refine hK.out _ _ (KEEP.out _ (ext_trans (ext_drew _) (ext_alloc _ _))) ?_
  clear hK K
  try simp only [Act.put, lsa, lsb, lsc]
  refine EG_one 8 (by kernel_rfl) (by simp only [lga, lgb, lgc]; rfl) (by decide) ?_
  intro K hK0
  have hK := hid hK0
  clear hK0
  have dst : OwnG okC (w.drew.alloc (.cells #[] 100)) w.heap.size 100 10 (some ⟨w.heap.size, 0, none⟩) 0 0 [] := .inr ⟨w.heap.size, [], rfl, Nat.le_refl _, heap_alloc_new w.drew _, by simp, Nat.le_refl _, by simp [maxLen], by simp, by simp⟩
  have XQ := hid (show Ext w (w.drew.alloc (.cells #[] 100)) from ext_trans (ext_drew w) (ext_alloc _ _))
  refine step_append_g (ok := okC) rfl (.tmp 5) (.tmp 11) 56 rfl w.heap.size 100 i0 (.agg #[.string ⟨#[]⟩, .int .i64 0, .int .i64 0, .bool false, .string ⟨#[]⟩, .int .i64 0, .int .i64 0, .int .i64 0, .slice none 0 0, .int .i64 0]) 10 112 Try.underlying56 hi0 hz0 hz1 hz2 rfl (by decide) zeroT (fun _ h => h) (by rfl) dst (by rfl) (R1.out.ext XQ.out) (okC_all _) (by omega) (by unfold maxLen; omega) XQ.out.size ?_
  intro A1 d1 w3 o1 g1 n1
  have X3 : Hid (Ext w w3) := hid (below_of_grown XQ.out XQ.out.size g1 (fun q hq => by simp at hq; omega))
  rw [show 0 + i = i from by omega, List.nil_append] at o1
  have O1 := hid o1
  rw [show 0 + i = i from by omega]
  clear dst g1 n1 o1
  refine hK.out _ _ (KEEP.out _ X3.out) ?_
  clear hK K
  try simp only [Act.put, lsa, lsb, lsc]
  refine EG_one 16 (by kernel_rfl) (by simp only [lga, lgb, lgc]; rfl) (by decide) ?_
  intro K hK0
  have hK := hid hK0
  clear hK0
  refine step_append_g (ok := okC) rfl (.tmp 12) (.tmp 19) 56 rfl w.heap.size 100 i0 (.agg #[.string ⟨#[]⟩, .int .i64 0, .int .i64 0, .bool false, .string ⟨#[]⟩, .int .i64 0, .int .i64 0, .int .i64 0, .slice none 0 0, .int .i64 0]) 10 112 Try.underlying56 hi0 hz0 hz1 hz2 rfl (by decide) zeroT (fun _ h => h) (by rfl) O1.out (by rfl) (R2.out.ext X3.out) (okC_all _) (by omega) (by unfold maxLen; omega) X3.out.size ?_
  intro A2 d2 w4 o2 g2 n2
  have X4 : Hid (Ext w w4) := hid (below_of_grown X3.out X3.out.size g2 (fun q hq => (O1.out.lt q hq).1))
  have O2 := hid o2
  clear g2 n2 o2
  refine hK.out _ _ (KEEP.out _ X4.out) ?_
  clear hK K
  try simp only [Act.put, lsa, lsb, lsc]
  refine EG_take 17 (v := ?v15) (by simp only [lga, lgb, lgc]; rfl) (by kernel_rfl) (by kernel_rfl) (by decide) (fun _ _ _ h => h) (Or.inl ⟨by rfl, ?hy15⟩) (KEEP.out _ X4.out) ?rest15
  case hy15 => intro W hSW; (try dsimp only at hSW); obtain e0 := hSW; go_simp <;> with_reducible rfl
  try simp only [Act.put, lsa, lsb, lsc]
  refine EG_take 18 (v := ?v16) (by simp only [lga, lgb, lgc]; rfl) (by kernel_rfl) (by kernel_rfl) (by decide) (fun _ _ _ h => h) (Or.inl ⟨by rfl, ?hy16⟩) (KEEP.out _ X4.out) ?rest16
  case hy16 => intro W hSW; (try dsimp only at hSW); obtain e0 := hSW; go_simp <;> with_reducible rfl
  try simp only [Act.put, lsa, lsb, lsc]
  refine EG_end (by kernel_rfl) (by simp only [lga, lgb, lgc]; rfl) ?_
  intro K hK0
  have hK := hid hK0
  clear hK0
  go_simp
  have e0 := KEEP.out _ X4.out
  have ef := FR.out _ X4.out
  go_simp
  refine hK.out _ _ ?_
  clear hK K
  refine NoPanic.normal ?_
  go_wp2_with fail
  go_end0
  have an := H.out.anew X4.out (A' := A2) (c' := d2) (T' := T.take i ++ T.drop j) (by rw [HLEN.out, cellsTM_app]; exact O2.out) (fun t ht => by
    have hm : t ∈ T := by
      rcases List.mem_append.1 ht with h | h
      · exact List.mem_of_mem_take h
      · exact List.mem_of_mem_drop h
    exact ⟨H.out.d t hm, H.out.ne.2 t hm⟩)
  rw [HLEN.out] at an
  exact ⟨A2, d2, rfl, an.1, an.2, fun k hk => (O2.out.lt k hk).1⟩
end
end Go.Proofs.Ytcddfenhkljpeaa

/- A slice that the call owns and that begins somewhere in its block: read, stored to, cut ahead, appended to. -/
import Derived.Test.YtkogagpahidenaaKitU
import Derived.Laws.IdiomCopy
import Derived.ArgAppend
namespace Go.BK
open Go.RowKit

/-- The slice value '.slice A n c' reads as the cells xs; it lies in a block of cells that are all 'ok', none frozen, up to the block's end. -/
def OwnO (ok : Value → Prop) (w : World) (e : TypeId) (size : Nat) (A : Option Addr) (n c : Nat) (xs : List Value) : Prop :=
  (A = none ∧ n = 0 ∧ c = 0 ∧ xs = []) ∨
  ∃ g o full, A = some ⟨g, o, none⟩ ∧ w.heap[g]? = some (.cells (List.toArray full) e (0, 0)) ∧ o + c * size ≤ full.length ∧ n ≤ c ∧ c ≤ maxLen ∧ (full.drop o).take (n * size) = xs ∧ ∀ u ∈ full, ok u

section
variable {ok : Value → Prop} {w w' : World} {size : Nat} {e : TypeId} {A : Option Addr} {n c : Nat} {xs : List Value}
theorem OwnG.own_o {base : Nat} (h : OwnG ok w base e size A n c xs) : OwnO ok w e size A n c xs := by
  rcases h with h | ⟨g, full, hA, hb, hg, hf, hn, hc, ht, hok⟩
  · exact .inl h
  · exact .inr ⟨g, 0, full, hA, hg, by omega, hn, hc, by simpa using ht, hok⟩
theorem OwnO.nil (ok : Value → Prop) (w : World) (e : TypeId) (size : Nat) : OwnO ok w e size none 0 0 [] := .inl ⟨rfl, rfl, rfl, rfl⟩
theorem OwnO.rd (h : OwnO ok w e size A n c xs) : RdG w size A n c xs := by
  rcases h with ⟨rfl, rfl, rfl, rfl⟩ | ⟨g, o, full, rfl, hg, hf, hn, hc, ht, _⟩
  · exact RdG.none_ w size
  · have hle : n * size ≤ c * size := Nat.mul_le_mul_right _ hn
    refine ⟨by rw [← ht, List.length_take, List.length_drop]; omega, hn, hc, fun h0 => ⟨g, o, rfl, (Array.getElem?_eq_some_iff.1 hg).1, fun i u hi => ?_⟩⟩
    rw [cell_of_row w g (o + i) _ e (0, 0) hg]
    rw [← ht, List.getElem?_take] at hi
    split at hi
    · simpa [List.getElem?_drop] using hi
    · cases hi
theorem OwnO.lt (h : OwnO ok w e size A n c xs) : ∀ b, blk A = some b → b < w.heap.size := by
  intro b hb
  rcases h with ⟨rfl, _⟩ | ⟨g, o, full, rfl, hgg, _⟩
  · cases hb
  · simp at hb; subst hb
    exact (Array.getElem?_eq_some_iff.1 hgg).1
theorem OwnO.shy {U : Nat → Prop} (hs : Shy U w w') (h : OwnO ok w e size A n c xs) (hne : ∀ k, blk A = some k → ¬ U k) : OwnO ok w' e size A n c xs := by
  rcases h with h | ⟨g, o, full, rfl, hg, r⟩
  · exact .inl h
  · exact .inr ⟨g, o, full, rfl, (hs.block g (Array.getElem?_eq_some_iff.1 hg).1 (hne g rfl)).trans hg, r⟩
theorem OwnO.mem (h : OwnO ok w e size A n c xs) : ∀ u ∈ xs, ok u := by
  rcases h with ⟨_, _, _, rfl⟩ | ⟨g, o, full, _, _, _, _, _, ht, hok⟩
  · simp
  · intro u hu; rw [← ht] at hu; exact hok u (List.mem_of_mem_drop (List.mem_of_mem_take hu))
/-- Its first elements are cut off. -/
theorem OwnO.cut (h : OwnO ok w e size A n c xs) {i : Nat} (hi : i ≤ n) (h0 : 0 < n) {A' : Option Addr} (hA : A' = A.map (·.add (i * size)) ∨ c = i ∧ A' = A) : OwnO ok w e size A' (n - i) (c - i) (xs.drop (i * size)) := by
  rcases h with ⟨_, h, _⟩ | ⟨g, o, full, rfl, hg, hf, hn, hc, ht, hok⟩
  · omega
  · have e1 : i * size ≤ c * size := Nat.mul_le_mul_right _ (by omega)
    rcases hA with rfl | ⟨rfl, rfl⟩
    · refine .inr ⟨g, o + i * size, full, by simp [Addr.add_lit], hg, by rw [Nat.sub_mul]; omega, by omega, by unfold maxLen at *; omega, ?_, hok⟩
      rw [← ht, List.drop_take, List.drop_drop, Nat.sub_mul]
    · have e2 : n = c := by omega
      subst e2
      refine .inr ⟨g, o, full, rfl, hg, by rw [Nat.sub_self]; omega, by omega, by simp, ?_, hok⟩
      rw [Nat.sub_self, Nat.zero_mul, List.take_zero, ← ht, List.drop_take, Nat.sub_self, List.take_zero]
theorem OwnO.blk_ne {g : Nat} {t : TypeId} {cs : Array Value} (ho : OwnO ok w e size A n c xs) (hg : Blk w g t cs) (ne : t ≠ e) : blk A ≠ some g := by
  intro hA
  rcases ho with ⟨rfl, _⟩ | ⟨b, o, full, rfl, hb, _⟩
  · cases hA
  · simp at hA
    subst hA
    unfold Blk at hg
    rw [hg] at hb
    injection hb with hb
    injection hb with _ h2
    exact ne h2
theorem setCells_heap (b : Nat) (t : TypeId) (fr : Nat × Nat) : ∀ (vs : List Value) (o : Nat) (w : World) (full : List Value), w.heap[b]? = some (.cells full.toArray t fr) → o + vs.length ≤ full.length →
    (w.setCells b o vs).heap[b]? = some (.cells (full.take o ++ vs ++ full.drop (o + vs.length)).toArray t fr) ∧ (∀ k, k ≠ b → (w.setCells b o vs).heap[k]? = w.heap[k]?) ∧ (w.setCells b o vs).os = w.os ∧ (w.setCells b o vs).tape = w.tape ∧ (w.setCells b o vs).output = w.output ∧ (w.setCells b o vs).heap.size = w.heap.size := by
  intro vs
  induction vs with
  | nil => intro o w full h hl; exact ⟨by simpa [World.setCells] using h, fun _ _ => rfl, rfl, rfl, rfl, rfl⟩
  | cons v vs ih =>
    intro o w full h hl
    simp only [List.length_cons] at hl
    have h1 : (w.setCell ⟨b, o, none⟩ v).heap[b]? = some (.cells (full.set o v).toArray t fr) := by
      simp [World.setCell, Array.getElem?_modify, h]
    obtain ⟨r1, r2, r3, r4, r5, r6⟩ := ih (o + 1) (w.setCell ⟨b, o, none⟩ v) (full.set o v) h1 (by rw [List.length_set]; omega)
    refine ⟨?_, fun k hk => (r2 k hk).trans (Below.heap_setCell w ⟨b, o, none⟩ v k hk), r3, r4, r5, r6.trans (by simp [World.setCell])⟩
    refine (show _ = _ from r1).trans ?_
    congr 2
    have e1 : (full.set o v).take (o + 1) = full.take o ++ [v] := by
      have e3 : (full.take o).length = o := by rw [List.length_take]; omega
      rw [List.take_set, List.take_succ_eq_append_getElem (by omega), List.set_append_right _ _ (by omega), e3, Nat.sub_self]
      rfl
    have e2 : (full.set o v).drop (o + 1 + vs.length) = full.drop (o + (v :: vs).length) := by
      rw [List.drop_set_of_lt (by omega)]
      simp only [List.length_cons]
      congr 1; omega
    rw [e1, e2]
    simp
end
section
variable {P : Program} {w : World}
/-- 'append(s, x...)': s such a slice, x whatever reads, something. -/
theorem run_append_o {ok : Value → Prop} (t ty e : TypeId) (i : TypeInfo) (z : Value) (size bytes : Nat) (ht : P.underlying t = some (.slice e)) (hi : P.info? e = some i) (hz : i.zero = some z)
    (hsize : i.size = size) (hby : i.bytes = bytes) (hzs : z.cells.size = size) (hsz : 0 < size) (hzok : ∀ u ∈ z.cells.toList, ok u) (hok1 : ∀ u, ok u → u.oneCell' = true)
    {A : Option Addr} {n c : Nat} {xs : List Value} (hown : OwnO ok w e size A n c xs)
    {A2 : Option Addr} {m c2 : Nat} {news : List Value} (hr : RdG w size A2 m c2 news) (hnok : ∀ u ∈ news, ok u) (hm : 0 < m)
    (hbytes : (n + m) * bytes ≤ 140737488355328) (h63 : n + m ≤ maxLen) :
    ∃ A' c' w', (Builtin.append_ #[t, t] ty #[.slice A n c, .slice A2 m c2]).run P w = .ok (.slice A' (n + m) c') w' ∧ OwnO ok w' e size A' (n + m) c' (xs ++ news) ∧ w.grownBy w' (blk A) ∧
      (A' = A ∨ A' = some ⟨w.heap.size, 0, none⟩) := by
  rcases hown with ⟨rfl, rfl, rfl, rfl⟩ | ⟨g, o, full, rfl, hg, hf, hn, hc, htk, hok⟩
  · obtain ⟨A', c', w', r1, r2, r3, r4⟩ := run_append_g (P := P) (ok := ok) 0 t ty e i z size bytes ht hi hz hsize hby hzs hsz hzok hok1 (OwnG.nil ok w 0 e size) hr hnok hbytes h63 (Nat.zero_le _)
    exact ⟨A', c', w', r1, r2.own_o, r3, r4⟩
  · subst hsize
    subst hby
    have hnl : news.length = m * i.size := hr.1
    obtain ⟨b2, o2, rfl, _, hcell⟩ := hr.2.2.2 hm
    have hnews : ∀ j u, news[j]? = some u → w.cell? ((⟨b2, o2, none⟩ : Addr).add j) = some u := fun j u hj => by rw [Addr.add_lit]; exact hcell j u hj
    have hnew1 : ∀ u ∈ news, u.oneCell' = true := fun u hu => hok1 u (hnok u hu)
    have hxl : xs.length = n * i.size := by
      have : n * i.size ≤ c * i.size := Nat.mul_le_mul_right _ hn
      rw [← htk, List.length_take, List.length_drop]; omega
    have hxok : ∀ u ∈ xs, ok u := by intro u hu; rw [← htk] at hu; exact hok u (List.mem_of_mem_drop (List.mem_of_mem_take hu))
    by_cases hroom : n + m ≤ c
    · have hlen : o + n * i.size + news.length ≤ full.length := by
        have : (n + m) * i.size ≤ c * i.size := Nat.mul_le_mul_right _ hroom
        rw [Nat.add_mul] at this
        omega
      have hrun := run_append_room_cells (P := P) w t ty e i ht hi g o n c ⟨b2, o2, none⟩ m c2 news hnl hnews hnew1 hroom
        (fun j hj => by rw [cell_of_row w g _ _ e (0, 0) hg, List.getElem?_toArray, List.getElem?_eq_getElem (by omega)]; rfl)
        (fun j hj => by simp [World.frozen?, hg])
      obtain ⟨r1, r2, r3, r4, r5, r6⟩ := setCells_heap g e (0, 0) news (o + n * i.size) w full hg hlen
      refine ⟨_, _, _, hrun, .inr ⟨g, o, _, rfl, r1, ?_, hroom, hc, ?_, ?_⟩, ⟨r3, r4, r5, by rw [r6]; exact Nat.le_refl _, fun k _ hk => r2 k (fun e => hk (by simp [e]))⟩, .inl rfl⟩
      · simp only [List.length_append, List.length_take, List.length_drop]; omega
      · have e1 : full.take (o + n * i.size) = full.take o ++ xs := by rw [List.take_add, htk]
        rw [e1, List.append_assoc, List.append_assoc]
        have e2 : (full.take o).length = o := by rw [List.length_take]; omega
        rw [List.drop_append, e2, List.drop_of_length_le (by omega), List.nil_append, Nat.sub_self, List.drop_zero, ← List.append_assoc]
        rw [show (n + m) * i.size = (xs ++ news).length from by rw [List.length_append, hxl, hnl, Nat.add_mul]]
        exact List.take_left
      · intro u hu
        rw [List.mem_append, List.mem_append] at hu
        rcases hu with (hu | hu) | hu
        · exact hok u (List.mem_of_mem_take hu)
        · exact hnok u hu
        · exact hok u (List.mem_of_mem_drop hu)
    · have holds : ∀ j u, xs[j]? = some u → w.cell? ((⟨g, o, none⟩ : Addr).add j) = some u := by
        intro j u hj
        rw [Addr.add_lit, cell_of_row w g (o + j) _ e (0, 0) hg]
        rw [← htk, List.getElem?_take] at hj
        split at hj
        · simpa [List.getElem?_drop] using hj
        · cases hj
      have hsmall : n + m ≤ 9223372036854775807 := by simp only [maxLen] at h63; omega
      have hrun := run_append_grow (P := P) w t ty e i z ht hi hz ⟨g, o, none⟩ n c xs hxl holds ⟨b2, o2, none⟩ m c2 news hnl hnews (by omega) (by omega) (growslice_fits (by omega) hbytes)
      have hge := grownCap_ge w (n + m) c e
      have hcm : grownCap w (n + m) c e ≤ maxLen := grownCap_le_maxLen w (n + m) c e h63
      have hlen : (xs ++ news).length = (n + m) * i.size := by rw [List.length_append, hxl, hnl, Nat.add_mul]
      refine ⟨_, _, _, hrun, .inr ⟨w.heap.size, 0, xs ++ news ++ (Builtin.zeroCells z.cells (grownCap w (n + m) c e - (n + m))).toList, rfl, ?_, ?_, hge, hcm, ?_, ?_⟩, ⟨rfl, rfl, rfl, by simp, fun k hk _ => Below.heap_alloc w.drew _ k hk⟩, .inr rfl⟩
      · have := heap_alloc_new w.drew (.cells (xs.toArray ++ news.toArray ++ Builtin.zeroCells z.cells (grownCap w (n + m) c e - (n + m))) e)
        refine (show _ = _ from this).trans ?_
        simp
      · rw [List.length_append, hlen, Array.length_toList, size_zeroCells, hzs, ← Nat.add_mul, Nat.zero_add]
        exact Nat.le_of_eq (by congr 1; omega)
      · rw [List.drop_zero, ← hlen]; exact List.take_left
      · intro u hu
        rw [List.mem_append, List.mem_append] at hu
        rcases hu with (hu | hu) | hu
        · exact hxok u hu
        · exact hnok u hu
        · exact hzok u (mem_zeroCells_any _ u hu)

theorem wpList_append_o {ops : Array Oper} {rest : List Oper} {o : Oper} {a : Act} {Q : Exit → Act → World → Prop} {ok : Value → Prop} (hgd : Region.wanted o (yielded ops a.tmps) = true) (s x : Operand) (t : TypeId)
    (ho : o.op = .call { callee := .builtin .append, args := #[s, x], argTypes := #[t, t] })
    (e : TypeId) (i : TypeInfo) (z : Value) (size bytes : Nat) (ht : P.underlying t = some (.slice e)) (hi : P.info? e = some i) (hz : i.zero = some z)
    (hsize : i.size = size) (hby : i.bytes = bytes) (hzs : z.cells.size = size) (hsz : 0 < size) (hzok : ∀ u ∈ z.cells.toList, ok u) (hok1 : ∀ u, ok u → u.oneCell' = true)
    {A : Option Addr} {n c : Nat} {xs : List Value} (hs : a.eval s = .slice A n c) (hown : OwnO ok w e size A n c xs)
    {A2 : Option Addr} {m c2 : Nat} {news : List Value} (hx : a.eval x = .slice A2 m c2) (hr : RdG w size A2 m c2 news) (hnok : ∀ u ∈ news, ok u) (hm : 0 < m)
    (hbytes : (n + m) * bytes ≤ 140737488355328) (h63 : n + m ≤ maxLen)
    (h : ∀ A' c' w', OwnO ok w' e size A' (n + m) c' (xs ++ news) → w.grownBy w' (blk A) → (A' = A ∨ A' = some ⟨w.heap.size, 0, none⟩) → wpList P ops Q rest (a.put o.dst (.slice A' (n + m) c')) w') : wpList P ops Q (o :: rest) a w := by
  refine wpList_wanted hgd fun K hK => ?_
  obtain ⟨A', c', w', hrun, h2, h3, h4⟩ := run_append_o (P := P) t o.type e i z size bytes ht hi hz hsize hby hzs hsz hzok hok1 hown hr hnok hm hbytes h63
  unfold Oper.wp execOp
  simp only [ho, resolve, invoke, builtin, Sem.run_bind, Sem.run_pure, Result.andThen_ok, List.map_toArray, List.map_cons, List.map_nil, hs, hx, hrun]
  exact hK _ _ (h A' c' w' h2 h3 h4)
end
end Go.BK

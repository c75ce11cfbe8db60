import Derived.Test.YtcddfenhkljpeaaKitA
import Derived.Lib.AppendStr
import Derived.Lib.ConvBytes
/- append of a string's bytes. -/
namespace Go.BK
open Go.RowKit
section
variable {P : Program} {w : World}

theorem cells_str (s : List UInt8) : Lib.strCells (str s) = s.map u8v := by simp [Lib.strCells, str]

/-- 'append(b, s...)': b the call's own bytes, s a string. -/
theorem run_append_s (base : Nat) (t u ty e : TypeId) (i : TypeInfo) (ht : P.underlying t = some (.slice e)) (hu : P.underlying u = some .string) (hi : P.info? e = some i) (hz : i.zero = some (.int .u8 0))
    (hsize : i.size = 1) (hby : i.bytes = 1) {A : Option Addr} {n c : Nat} {xs : List Value} (hown : OwnG isU8 w base e 1 A n c xs) (s : List UInt8)
    (hbytes : n + s.length ≤ 140737488355328) (hbase : base ≤ w.heap.size) :
    ∃ A' c' w', (Builtin.append_ #[t, u] ty #[.slice A n c, .string (str s)]).run P w = .ok (.slice A' (n + s.length) c') w' ∧ OwnG isU8 w' base e 1 A' (n + s.length) c' (xs ++ s.map u8v) ∧ w.grownBy w' (blk A) ∧
      (A' = A ∨ A' = some ⟨w.heap.size, 0, none⟩) := by
  have hsz : (str s).size = s.length := str_size s
  have hcs := cells_str s
  have hnl : (s.map u8v).length = s.length := by simp
  have hxl : xs.length = n := by simpa using hown.rd.1
  have hxok : ∀ u ∈ xs, isU8 u := by
    rcases hown with ⟨_, _, _, rfl⟩ | ⟨_, full, _, _, _, _, _, _, ht, hok⟩
    · simp
    · intro u hu; rw [← ht] at hu; exact hok u (List.mem_of_mem_take hu)
  have grown : ∀ old : Nat, old < n + s.length → ∀ row : Option Nat,
      OwnG isU8 (w.drew.alloc (.cells (xs.toArray ++ (s.map u8v).toArray ++ Builtin.zeroCells (Value.int .u8 0).cells (grownCap w (n + s.length) old e - (n + s.length))) e)) base e 1 (some ⟨w.heap.size, 0, none⟩) (n + s.length) (grownCap w (n + s.length) old e) (xs ++ s.map u8v) ∧
      w.grownBy (w.drew.alloc (.cells (xs.toArray ++ (s.map u8v).toArray ++ Builtin.zeroCells (Value.int .u8 0).cells (grownCap w (n + s.length) old e - (n + s.length))) e)) row := by
    intro old ho row
    have hge := grownCap_ge w (n + s.length) old e
    have hcm : grownCap w (n + s.length) old e ≤ maxLen := grownCap_le_maxLen w (n + s.length) old e (by unfold maxLen; omega)
    have hlen : (xs ++ s.map u8v).length = n + s.length := by rw [List.length_append, hxl, hnl]
    refine ⟨.inr ⟨w.heap.size, xs ++ s.map u8v ++ (Builtin.zeroCells (Value.int .u8 0).cells (grownCap w (n + s.length) old e - (n + s.length))).toList, rfl, hbase, ?_, ?_, hge, hcm, ?_, ?_⟩, ⟨rfl, rfl, rfl, by simp, fun k hk _ => Below.heap_alloc w.drew _ k hk⟩⟩
    · have := heap_alloc_new w.drew (.cells (xs.toArray ++ (s.map u8v).toArray ++ Builtin.zeroCells (Value.int .u8 0).cells (grownCap w (n + s.length) old e - (n + s.length))) e)
      refine (show _ = _ from this).trans ?_
      simp
    · have hz1 : (Value.int IntKind.u8 0).cells.size = 1 := rfl
      have hzl : (Builtin.zeroCells (Value.int .u8 0).cells (grownCap w (n + s.length) old e - (n + s.length))).toList.length = (grownCap w (n + s.length) old e - (n + s.length)) * 1 := by
        rw [Array.length_toList, size_zeroCells, hz1]
      rw [List.length_append, hlen, hzl]
      omega
    · rw [Nat.mul_one, ← hlen]; exact List.take_left
    · intro u hu
      rw [List.mem_append, List.mem_append] at hu
      rcases hu with (hu | hu) | hu
      · exact hxok u hu
      · exact isU8_map s u hu
      · have := mem_zeroCells (z := Value.int .u8 0) rfl _ u hu
        exact ⟨0, this⟩
  rcases hown with ⟨rfl, rfl, rfl, rfl⟩ | ⟨g, full, rfl, hbg, hg, hfl, hnc, hcm, htake, hok⟩
  · by_cases hm : s.length = 0
    · have hs : s = [] := List.eq_nil_of_length_eq_zero hm
      subst hs
      refine ⟨none, 0, w, ?_, .inl ⟨rfl, rfl, rfl, rfl⟩, grown_refl _ _, .inl rfl⟩
      have hf := Lib.run_firstCells_string (P := P) w 1 (str [])
      rw [hsz] at hf
      simp only [List.length_nil] at hf
      simp [Builtin.append_, run_underlying ht, run_underlying hu, sizeOf, typeInfo, hi, hsize, Builtin.lenOf, hsz, hf]
    · have hr := run_append_nil_string (P := P) w t u ty e i (.int .u8 0) ht hu hi hz (str s) (by omega) (by omega) (by rw [hby]; omega)
      have hgr := grown 0 (by omega) none
      have e1 : ((str s).data.map fun b => Value.int .u8 b.toNat) = (s.map u8v).toArray := by
        apply Array.ext'
        simp [str]
      rw [e1, hsz] at hr
      simp only [Nat.zero_add, List.nil_append, Array.empty_append] at hgr ⊢
      exact ⟨_, _, _, hr, by simpa using hgr.1, hgr.2, .inr rfl⟩
  · by_cases hroom : n + s.length ≤ c
    · have hr := Lib.run_append_room_string (P := P) w t u ty e i ht hu hi hsize g n c full.toArray hg (str s) (by omega) (by simp; omega)
      rw [hcs, hsz] at hr
      refine ⟨_, _, _, hr, .inr ⟨g, full.take n ++ s.map u8v ++ full.drop (n + s.length), rfl, hbg, ?_, ?_, hroom, hcm, ?_, ?_⟩, ⟨rfl, rfl, rfl, by simp, fun k _ hk => setRow_other w g k _ (fun e => hk (by simp [e]))⟩, .inl rfl⟩
      · exact setRow_heap w g _ _ e _ hg
      · simp only [List.length_append, List.length_take, List.length_drop, hnl]; omega
      · rw [Nat.mul_one] at htake
        rw [Nat.mul_one, htake, show n + s.length = (xs ++ s.map u8v).length from by rw [List.length_append, hxl, hnl]]
        exact List.take_left
      · intro u hu
        rw [List.mem_append, List.mem_append] at hu
        rcases hu with (hu | hu) | hu
        · exact hok u (List.mem_of_mem_take hu)
        · exact isU8_map s u hu
        · exact hok u (List.mem_of_mem_drop hu)
    · have holds : ∀ j u, xs[j]? = some u → w.cell? ((⟨g, 0, none⟩ : Addr).add j) = some u := by
        intro j u hj
        rw [Addr.add_lit, cell_of_row w g (0 + j) _ e (0, 0) hg]
        rw [← htake, List.getElem?_take] at hj
        split at hj
        · simpa using hj
        · cases hj
      have hr := Lib.run_append_grow_string (P := P) w t u ty e i (.int .u8 0) ht hu hi hz ⟨g, 0, none⟩ n c xs (by rw [hsize]; simpa using hxl) holds (str s) (by omega) (by omega) (by rw [hby]; exact growslice_fits (by omega) (by omega))
      rw [hcs, hsz] at hr
      have hgr := grown c (by omega) (blk (some ⟨g, 0, none⟩))
      exact ⟨_, _, _, hr, hgr.1, hgr.2, .inr rfl⟩

theorem wpList_append_s {ops : Array Oper} {rest : List Oper} {o : Oper} {a : Act} {Q : Exit → Act → World → Prop} (hgd : Region.wanted o (yielded ops a.tmps) = true) (d x : Operand) (t u : TypeId)
    (ho : o.op = .call { callee := .builtin .append, args := #[d, x], argTypes := #[t, u] })
    (base : Nat) (e : TypeId) (i : TypeInfo) (ht : P.underlying t = some (.slice e)) (hu : P.underlying u = some .string) (hi : P.info? e = some i) (hz : i.zero = some (.int .u8 0))
    (hsize : i.size = 1) (hby : i.bytes = 1) {A : Option Addr} {n c : Nat} {xs : List Value} (hd : a.eval d = .slice A n c) (hown : OwnG isU8 w base e 1 A n c xs) (s : List UInt8) (hx : a.eval x = .string (str s))
    (hbytes : n + s.length ≤ 140737488355328) (hbase : base ≤ w.heap.size)
    (h : ∀ A' c' w', OwnG isU8 w' base e 1 A' (n + s.length) c' (xs ++ s.map u8v) → w.grownBy w' (blk A) → (A' = A ∨ A' = some ⟨w.heap.size, 0, none⟩) → wpList P ops Q rest (a.put o.dst (.slice A' (n + s.length) c')) w') : wpList P ops Q (o :: rest) a w := by
  refine wpList_wanted hgd fun K hK => ?_
  obtain ⟨A', c', w', hrun, h2, h3, h4⟩ := run_append_s (P := P) base t u o.type e i ht hu hi hz hsize hby hown s hbytes hbase
  unfold Oper.wp execOp
  simp only [ho, resolve, invoke, builtin, Sem.run_bind, Sem.run_pure, Result.andThen_ok, List.map_toArray, List.map_cons, List.map_nil, hd, hx, hrun]
  exact hK _ _ (h A' c' w' h2 h3 h4)
/-- '[]byte(s)': new memory that reads as s. -/
theorem conv_sb (w : World) (l : List UInt8) (src dst e : TypeId) (hs : P.underlying src = some .string) (hd : P.underlying dst = some (.slice e)) (he : P.underlying e = some (.int .u8)) (hl : l.length ≤ 2000000) :
    ∃ A c w', (convert src dst (.string (str l))).run P w = .ok (.slice A l.length c) w' ∧ Rd w' A c l ∧ Ext w w' := by
  have hr := Lib.run_convert_string_bytes (P := P) w src dst e (str l) hs hd he
  rw [str_size] at hr
  have hn := Lib.bytesWorld_at_new w e (str l)
  have hsz : w.heap.size < (Lib.bytesWorld w e (str l)).heap.size := (Array.getElem?_eq_some_iff.1 hn).1
  refine ⟨_, _, _, hr, ⟨by simp, grownCap_ge _ _ _ _, grownCap_le_maxLen _ _ _ _ (by unfold maxLen; omega), fun h0 => ⟨w.heap.size, 0, rfl, hsz, fun j u hj => ?_⟩⟩, ⟨rfl, rfl, rfl, Nat.le_of_lt hsz, fun k hk => Lib.bytesWorld_at_old w e (str l) k hk⟩⟩
  rw [Nat.zero_add]
  unfold World.cell?
  simp only [hn]
  have hjl : j < (l.map u8v).length := by
    rcases Nat.lt_or_ge j (l.map u8v).length with h | h
    · exact h
    · rw [List.getElem?_eq_none h] at hj; cases hj
  have hd : ((str l).data.map fun b => Value.int .u8 b.toNat) = (l.map u8v).toArray := by
    apply Array.ext'
    simp [str]
  show (Lib.bytesCells w e (str l))[j]? = some u
  unfold Lib.bytesCells
  rw [hd, Array.getElem?_append_left (by simpa using hjl), List.getElem?_toArray]
  exact hj
end
end Go.BK

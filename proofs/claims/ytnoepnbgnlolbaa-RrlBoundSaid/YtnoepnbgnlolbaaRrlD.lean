/- slices.Delete of one key, elements of two cells. -/
import Derived.Test.YtnoepnbgnlolbaaRrlH
import Derived.Lib.SliceRun
import Derived.Deep.RegionLaw
namespace Go.BK
open Go.RowKit
section
variable {P : Program} {w : World}
/-- 'append(s, x...)' where there is room: in place. -/
theorem run_append_room_own {ok : Value → Prop} (base : Nat) (t ty e : TypeId) (i : TypeInfo) (size : Nat) (ht : P.underlying t = some (.slice e)) (hi : P.info? e = some i)
    (hsize : i.size = size) (hsz : 0 < size) (hok1 : ∀ u, ok u → u.oneCell' = true)
    {A : Option Addr} {n c : Nat} {xs : List Value} (hown : OwnG ok w base e size A n c xs)
    {A2 : Option Addr} {m c2 : Nat} {news : List Value} (hr : RdG w size A2 m c2 news) (hnok : ∀ u ∈ news, ok u) (hroom : n + m ≤ c) :
    ∃ w', (Builtin.append_ #[t, t] ty #[.slice A n c, .slice A2 m c2]).run P w = .ok (.slice A (n + m) c) w' ∧ OwnG ok w' base e size A (n + m) c (xs ++ news) ∧ w.grownBy w' (blk A) := by
  subst hsize
  have hxl : xs.length = n * i.size := hown.rd.1
  have hnl : news.length = m * i.size := hr.1
  by_cases hm : m = 0
  · subst hm
    have hn0 : news = [] := List.eq_nil_of_length_eq_zero (by simpa using hnl)
    subst hn0
    refine ⟨w, ?_, by simpa using hown, grown_refl _ _⟩
    have hnc : n ≤ c := hown.rd.2.1
    rcases A2 with _ | ad
    · rcases A with _ | g
      · simp [Builtin.append_, run_underlying ht, sizeOf, typeInfo, hi, Builtin.lenOf, Builtin.firstCells, hnc]
      · simp [Builtin.append_, run_underlying ht, sizeOf, typeInfo, hi, Builtin.lenOf, Builtin.firstCells, hnc, storeCells]
    · rcases A with _ | g
      · simp [Builtin.append_, run_underlying ht, sizeOf, typeInfo, hi, Builtin.lenOf, Builtin.firstCells, hnc, loadCells, loadCellsFrom]
      · simp [Builtin.append_, run_underlying ht, sizeOf, typeInfo, hi, Builtin.lenOf, Builtin.firstCells, hnc, storeCells, loadCells, loadCellsFrom]
  · obtain ⟨b, o, rfl, _, hcell⟩ := hr.2.2.2 (by omega)
    have hnews : ∀ j u, news[j]? = some u → w.cell? ((⟨b, o, none⟩ : Addr).add j) = some u := fun j u hj => by rw [Addr.add_lit]; exact hcell j u hj
    have hnew1 : ∀ u ∈ news, u.oneCell' = true := fun u hu => hok1 u (hnok u hu)
    rcases hown with ⟨rfl, rfl, rfl, rfl⟩ | ⟨g, full, rfl, hbg, hg, hfl, hnc, hcm, htake, hok⟩
    · omega
    · have hsize : n * i.size + news.length ≤ full.length := by rw [hnl, hfl, ← Nat.add_mul]; exact Nat.mul_le_mul_right _ hroom
      have hr := run_append_room (P := P) w t ty e i ht hi g n c full.toArray hg ⟨b, o, none⟩ m c2 news hnl hnews hnew1 hroom (by simpa using hsize)
      refine ⟨_, hr, .inr ⟨g, full.take (n * i.size) ++ news ++ full.drop (n * i.size + news.length), rfl, hbg, ?_, ?_, hroom, hcm, ?_, ?_⟩, ⟨rfl, rfl, rfl, by simp, fun k _ hk => setRow_other w g k _ (fun e => hk (by simp [e]))⟩⟩
      · exact setRow_heap w g _ _ e _ hg
      · simp only [List.length_append, List.length_take, List.length_drop]; omega
      · rw [htake, show (n + m) * i.size = (xs ++ news).length from by rw [List.length_append, hxl, hnl, Nat.add_mul]]
        exact List.take_left
      · intro u hu
        rw [List.mem_append, List.mem_append] at hu
        rcases hu with (hu | hu) | hu
        · exact hok u (List.mem_of_mem_take hu)
        · exact hnok u hu
        · exact hok u (List.mem_of_mem_drop hu)

theorem step_append_own {ops : Array Oper} {o : Oper} {a : Act} {K : Act → World → Prop} {Q : Exit → Act → World → Prop} {E : Prop} {ok : Value → Prop} (hgd : o.guard = none) (s x : Operand) (t : TypeId)
    (ho : o.op = .call { callee := .builtin .append, args := #[s, x], argTypes := #[t, t] })
    (base : Nat) (e : TypeId) (i : TypeInfo) (size : Nat) (ht : P.underlying t = some (.slice e)) (hi : P.info? e = some i)
    (hsize : i.size = size) (hsz : 0 < size) (hok1 : ∀ u, ok u → u.oneCell' = true)
    {A : Option Addr} {n c : Nat} {xs : List Value} (hs : a.eval s = .slice A n c) (hown : OwnG ok w base e size A n c xs)
    {A2 : Option Addr} {m c2 : Nat} {news : List Value} (hx : a.eval x = .slice A2 m c2) (hr : RdG w size A2 m c2 news) (hnok : ∀ u ∈ news, ok u) (hroom : n + m ≤ c)
    (h : ∀ w', OwnG ok w' base e size A (n + m) c (xs ++ news) → w.grownBy w' (blk A) → K (a.put o.dst (.slice A (n + m) c)) w') :
    if Region.wanted o (yielded ops a.tmps) = true then Oper.wp P o a w K Q else E := by
  have hw : Region.wanted o (yielded ops a.tmps) = true := by simp [Region.wanted, hgd]
  rw [if_pos hw]
  obtain ⟨w', hrun, h2, h3⟩ := run_append_room_own (P := P) base t o.type e i size ht hi hsize hsz hok1 hown hr hnok hroom
  unfold Oper.wp execOp
  simp only [ho, resolve, invoke, builtin, Sem.run_bind, Sem.run_pure, Result.andThen_ok, List.map_toArray, List.map_cons, List.map_nil, hs, hx, hrun]
  exact h w' h2 h3

/-- A store behind what is read of a slice of the call's own. -/
theorem OwnG.behind {ok : Value → Prop} {base size n c g k : Nat} {e : TypeId} {xs : List Value} (h : OwnG ok w base e size (some ⟨g, 0, none⟩) n c xs) (hk : n * size ≤ k) {v : Value} (hv : ok v) :
    OwnG ok (w.setCell ⟨g, k, none⟩ v) base e size (some ⟨g, 0, none⟩) n c xs := by
  rcases h with ⟨h, _⟩ | ⟨g', full, hA, hb, hg, hf, hn, hc, ht, hok⟩
  · cases h
  · injection hA with hA; injection hA with hA; subst hA
    refine .inr ⟨g, full.set k v, rfl, hb, ?_, by simp [hf], hn, hc, ?_, ?_⟩
    · simp [World.setCell, Array.getElem?_modify, hg]
    · rw [List.take_set_of_le hk]; exact ht
    · intro u hu
      rcases List.mem_or_eq_of_mem_set hu with h | rfl
      · exact hok u h
      · exact hv
theorem OwnG.there {ok : Value → Prop} {base size n c g k : Nat} {e : TypeId} {xs : List Value} (h : OwnG ok w base e size (some ⟨g, 0, none⟩) n c xs) (hk : k < c * size) : (w.cell? ⟨g, k, none⟩).isSome = true ∧ w.frozen? ⟨g, k, none⟩ = false := by
  rcases h with ⟨h, _⟩ | ⟨g', full, hA, hb, hg, hf, hn, hc, ht, hok⟩
  · cases h
  · injection hA with hA; injection hA with hA; subst hA
    refine ⟨?_, by simp [World.frozen?, hg]⟩
    rw [cell_of_row w g k _ e (0, 0) hg]
    rw [List.getElem?_toArray, List.getElem?_eq_getElem (by omega)]
    rfl
end
end Go.BK
namespace Go.Proofs.Ytnoepnbgnlolbaa
open Go.BK Go.RowKit Go.Maps
set_option linter.unusedVariables false
set_option linter.unusedSimpArgs false

theorem zero_key (w : World) : (zeroValue 46).run Try.prog w = .ok (.agg #[.int .i64 0, .string ⟨#[]⟩]) w := by simp
theorem run_clear_key (w : World) (ty : TypeId) (b o c : Nat)
    (hc : ∀ j, j < 2 → (w.cell? ⟨b, o + j, none⟩).isSome = true) (hf : ∀ j, j < 2 → w.frozen? ⟨b, o + j, none⟩ = false) :
    (Builtin.clear_ #[25] ty #[.slice (some ⟨b, o, none⟩) 1 c]).run Try.prog w = .ok (.tuple #[]) ((w.setCell ⟨b, o, none⟩ (.int .i64 0)).setCell ⟨b, o + 1, none⟩ (.string ⟨#[]⟩)) := by
  have hzc : (Builtin.zeroCells (Value.agg #[.int .i64 0, .string ⟨#[]⟩]).cells 1).toList = [.int .i64 0, .string ⟨#[]⟩] := by
    simp [Builtin.zeroCells, Value.cells]
    rfl
  have hst := run_storeCells_cells (P := Try.prog) b o [.int .i64 0, .string ⟨#[]⟩] 0 w (by simpa using hc) (by simpa using hf) (by intro v hv; simp at hv; rcases hv with rfl | rfl <;> rfl)
  simp only [Nat.add_zero] at hst
  simp [Builtin.clear_, run_underlying Try.underlying25, zero_key, hzc, hst]
  rfl

set_option maxHeartbeats 4000000 in
set_option maxRecDepth 100000 in
theorem delete_one {w : World} {g n c : Nat} {xs : List Value} (h : OwnG isOne w 0 46 2 (some ⟨g, 0, none⟩) n c xs) (i m : Nat) (hn : n = i + 1 + m) :
    Calls Try.prog 17 #[.slice (some ⟨g, 0, none⟩) n c, .int .i64 i, .int .i64 ((i : Int) + 1)] w fun e w' => e = .returned (.slice (some ⟨g, 0, none⟩) (i + m) c) ∧ OwnG isOne w' 0 46 2 (some ⟨g, 0, none⟩) (i + m) c (xs.take (i * 2) ++ xs.drop ((i + 1) * 2)) ∧ w.grownBy w' (some g) := by
  have hc9 := h.rd.c_le
  have hnc := h.rd.cap.1
  have hxl := h.rd.1
  have O1 := hid (h.shrink i (by omega))
  have hi1 : (i : Int) + 1 ≤ (n : Int) := by omega
  have hi2 : (i : Int) ≤ (n : Int) := by omega
  have hi3 : ((i : Int) == (i : Int) + 1) = false := by rw [beq_eq_false_iff_ne]; omega
  have hi4 : ¬ n = i := by omega
  have hi5 : ((i : Int) + 1).toNat = i + 1 := by omega
  have hi6 : n - (i + 1) = m := by omega
  have hc0 : ¬ c = 0 := by omega
  have hz : ((i : Int) + (m : Int)).toNat = i + m := by omega
  have hz2 : n - (i + m) = 1 := by omega
  have hz3 : ¬ c = i + m := by omega
  have hz4 : (i : Int) + (m : Int) ≤ (n : Int) := by omega
  have hz5 : (n : Int) ≤ (c : Int) := by omega
  have hz6 : i ≤ c := by omega
  have hi8 : (0 : Int) ≤ (i : Int) + 1 := by omega
  have hi9 : (0 : Int) ≤ (i : Int) + (m : Int) := by omega
  have hz7 : i + 1 ≤ n := by omega
  have hz8 : i + m ≤ n := by omega
  have hz9 : i + 1 ≤ c := by omega
  have hza : i + m ≤ c := by omega
  obtain ⟨i0, hI, hz0, hz1, hz2'⟩ := info_parts info_key
  have HI := hid hI
  have HN := hid hn
  by_cases hm0 : m = 0
  · have hd0 : xs.drop ((i + 1) * 2) = [] := List.drop_of_length_le (by omega)
    have RZ := hid (fun (W : World) (A2 : Option Addr) (c2 : Nat) (hc : c2 ≤ maxLen) => show RdG W 2 A2 m c2 (xs.drop ((i + 1) * 2)) from by rw [hd0, hm0]; exact RdG.zero W 2 A2 c2 hc)
    have hok : ∀ u ∈ xs, isOne u := by
      rcases h with ⟨h, _⟩ | ⟨_, full, _, _, _, _, _, _, ht, hok⟩
      · cases h
      · intro u hu; rw [← ht] at hu; exact hok u (List.mem_of_mem_take hu)
    have HOK := hid hok
    have hcm := h.rd.cap.2
    have HCM := hid hcm
    clear h hxl hI hn hd0 hok hm0 hcm
    by_cases hci : c = i + 1
    · have hq : (c = i + 1) = True := eq_true hci
      clear hci
      go_enter Try.func17, Try.ntmps17
      go_wp2_with fail
      go_region_law ((refine step_append_own rfl (.tmp 22) (.tmp 25) 25 rfl 0 46 i0 2 Try.underlying25 HI.out hz1 Nat.zero_lt_two (fun _ h => h) rfl (O1.out.ext (ext_drew _)) rfl (RZ.out _ _ _ (Nat.le_trans (Nat.sub_le _ _) HCM.out)) (fun u hu => HOK.out u (List.mem_of_mem_drop hu)) hza ?_; intro w5 o5 g5))
      have L1 := o5.there (k := (i + m) * 2) (by omega)
      have L2 := o5.there (k := (i + m) * 2 + 1) (by omega)
      have hcl : ∀ ty, (Builtin.clear_ #[25] ty #[.slice (some ⟨g, (i + m) * 2, none⟩) 1 (c - (i + m))]).run Try.prog w5 = .ok (.tuple #[]) ((w5.setCell ⟨g, (i + m) * 2, none⟩ (.int .i64 0)).setCell ⟨g, (i + m) * 2 + 1, none⟩ (.string ⟨#[]⟩)) := fun ty =>
        run_clear_key w5 ty g ((i + m) * 2) (c - (i + m)) (fun j hj => by rcases (show j = 0 ∨ j = 1 from by omega) with rfl | rfl; exact L1.1; exact L2.1) (fun j hj => by rcases (show j = 0 ∨ j = 1 from by omega) with rfl | rfl; exact L1.2; exact L2.2)
      have o6 := (o5.behind (k := (i + m) * 2) (Nat.le_refl _) (v := .int .i64 0) rfl).behind (k := (i + m) * 2 + 1) (by omega) (v := .string ⟨#[]⟩) rfl
      have g6 := grown_of_set (grown_of_set g5 (.inl rfl) ((i + m) * 2) (.int .i64 0)) (.inl rfl) ((i + m) * 2 + 1) (.string ⟨#[]⟩)
      have O6 := hid o6
      have G6 := hid g6
      clear L1 L2 o5 g5 o6 g6
      go_wp2_with fail
      go_ret
      exact ⟨rfl, O6.out, grown_trans (grown_of_ext (ext_drew _) _) G6.out⟩
    · go_enter Try.func17, Try.ntmps17
      go_wp2_with fail
      go_region_law ((refine step_append_own rfl (.tmp 22) (.tmp 25) 25 rfl 0 46 i0 2 Try.underlying25 HI.out hz1 Nat.zero_lt_two (fun _ h => h) rfl (O1.out.ext (ext_drew _)) rfl (RZ.out _ _ _ (Nat.le_trans (Nat.sub_le _ _) HCM.out)) (fun u hu => HOK.out u (List.mem_of_mem_drop hu)) hza ?_; intro w5 o5 g5))
      have L1 := o5.there (k := (i + m) * 2) (by omega)
      have L2 := o5.there (k := (i + m) * 2 + 1) (by omega)
      have hcl : ∀ ty, (Builtin.clear_ #[25] ty #[.slice (some ⟨g, (i + m) * 2, none⟩) 1 (c - (i + m))]).run Try.prog w5 = .ok (.tuple #[]) ((w5.setCell ⟨g, (i + m) * 2, none⟩ (.int .i64 0)).setCell ⟨g, (i + m) * 2 + 1, none⟩ (.string ⟨#[]⟩)) := fun ty =>
        run_clear_key w5 ty g ((i + m) * 2) (c - (i + m)) (fun j hj => by rcases (show j = 0 ∨ j = 1 from by omega) with rfl | rfl; exact L1.1; exact L2.1) (fun j hj => by rcases (show j = 0 ∨ j = 1 from by omega) with rfl | rfl; exact L1.2; exact L2.2)
      have o6 := (o5.behind (k := (i + m) * 2) (Nat.le_refl _) (v := .int .i64 0) rfl).behind (k := (i + m) * 2 + 1) (by omega) (v := .string ⟨#[]⟩) rfl
      have g6 := grown_of_set (grown_of_set g5 (.inl rfl) ((i + m) * 2) (.int .i64 0)) (.inl rfl) ((i + m) * 2 + 1) (.string ⟨#[]⟩)
      have O6 := hid o6
      have G6 := hid g6
      clear L1 L2 o5 g5 o6 g6
      go_wp2_with fail
      go_ret
      exact ⟨rfl, O6.out, grown_trans (grown_of_ext (ext_drew _) _) G6.out⟩
  · have hci : ¬ c = i + 1 := by omega
    have hcut := RdG.cut h.rd (i := i + 1) (j := n) (by omega) (Nat.le_refl _) (A' := some ⟨g, (i + 1) * 2, none⟩) (fun _ => by simp [Addr.add])
    rw [hi6, List.take_of_length_le (by omega)] at hcut
    have RC := hid hcut
    have hok : ∀ u ∈ xs, isOne u := by
      rcases h with ⟨h, _⟩ | ⟨_, full, _, _, _, _, _, _, ht, hok⟩
      · cases h
      · intro u hu; rw [← ht] at hu; exact hok u (List.mem_of_mem_take hu)
    have HOK := hid hok
    clear h hxl hcut hok hI hn
    go_enter Try.func17, Try.ntmps17
    go_wp2_with fail
    go_region_law ((refine step_append_own rfl (.tmp 22) (.tmp 25) 25 rfl 0 46 i0 2 Try.underlying25 HI.out hz1 Nat.zero_lt_two (fun _ h => h) rfl (O1.out.ext (ext_drew _)) rfl (RC.out.ext (ext_drew _)) (fun u hu => HOK.out u (List.mem_of_mem_drop hu)) hza ?_; intro w5 o5 g5))
    have L1 := o5.there (k := (i + m) * 2) (by omega)
    have L2 := o5.there (k := (i + m) * 2 + 1) (by omega)
    have hcl : ∀ ty, (Builtin.clear_ #[25] ty #[.slice (some ⟨g, (i + m) * 2, none⟩) 1 (c - (i + m))]).run Try.prog w5 = .ok (.tuple #[]) ((w5.setCell ⟨g, (i + m) * 2, none⟩ (.int .i64 0)).setCell ⟨g, (i + m) * 2 + 1, none⟩ (.string ⟨#[]⟩)) := fun ty =>
      run_clear_key w5 ty g ((i + m) * 2) (c - (i + m)) (fun j hj => by rcases (show j = 0 ∨ j = 1 from by omega) with rfl | rfl; exact L1.1; exact L2.1) (fun j hj => by rcases (show j = 0 ∨ j = 1 from by omega) with rfl | rfl; exact L1.2; exact L2.2)
    have o6 := (o5.behind (k := (i + m) * 2) (Nat.le_refl _) (v := .int .i64 0) rfl).behind (k := (i + m) * 2 + 1) (by omega) (v := .string ⟨#[]⟩) rfl
    have g6 := grown_of_set (grown_of_set g5 (.inl rfl) ((i + m) * 2) (.int .i64 0)) (.inl rfl) ((i + m) * 2 + 1) (.string ⟨#[]⟩)
    have O6 := hid o6
    have G6 := hid g6
    clear L1 L2 o5 g5 o6 g6
    go_wp2_with fail
    go_ret
    exact ⟨rfl, O6.out, grown_trans (grown_of_ext (ext_drew _) _) G6.out⟩
end Go.Proofs.Ytnoepnbgnlolbaa

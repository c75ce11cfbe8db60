import Derived.Test.YtcddfenhkljpeaaChcE
import Derived.Test.YtcddfenhkljpeaaLabD
import Derived.StringKeys
/- Layer 23: slices.Clone, sets.Better, sets.Check of a set that may be. -/
namespace Go.Proofs.Ytcddfenhkljpeaa
open Go.BK Go.BK.CH Go.BK.NM Go.RowKit Go.Maps
set_option linter.unusedVariables false
set_option linter.unusedSimpArgs false
theorem rdt_addr {w : World} {A : Option Addr} {c n : Nat} {xs : List Value} (h : RdG w 1 A n c xs) (h1 : 1 ≤ n) : ∃ b o, A = some ⟨b, o, none⟩ ∧ b < w.heap.size := by
  obtain ⟨b, o, h1, h2, _⟩ := h.2.2.2 (by omega)
  exact ⟨b, o, h1, h2⟩
set_option maxHeartbeats 1000000 in
set_option maxRecDepth 100000 in
theorem clone_in {w : World} {A : Option Addr} {c : Nat} {L : List (List UInt8)} (h : RdG w 1 A L.length c (tvs L)) (h1 : 1 ≤ L.length) (hl : L.length ≤ 1000000) :
    Calls Try.prog 40 #[.slice A L.length c] w fun e w' => ∃ A' c', e = .returned (.slice A' L.length c') ∧ OwnG isT w' w.heap.size 9 1 A' L.length c' (tvs L) ∧ Ext w w' := by
  obtain ⟨i0, hi, hz0, hz1, hz2⟩ := info_parts info_t
  obtain ⟨b, o, hA, _⟩ := rdt_addr h h1
  subst hA
  have xe := ext_alloc w (.cells #[] 9)
  have dst : OwnG isT (w.alloc (.cells #[] 9)) w.heap.size 9 1 (some ⟨w.heap.size, 0, none⟩) 0 0 [] := by
    have := OwnG.new (ok := isT) (base := w.heap.size) (size := 1) (e := 9) w [] 0 0 (Nat.le_refl _) (by simp) (Nat.le_refl _) (by simp [maxLen]) (by simp)
    simpa using this
  have src := h.ext xe
  have heq : ∀ (n c : Nat) W, (binOp .eql 28 (.slice (some ⟨b, o, none⟩) n c) (.slice none 0 0)).run Try.prog W = .ok (.bool false) W := fun _ _ _ => by kernel_rfl
  obtain ⟨n, hn⟩ : ∃ n, L.length = n := ⟨_, rfl⟩
  rw [hn] at h1 hl src ⊢
  have XE := hid xe
  clear h xe hn
  go_enter Try.func40, Try.ntmps40
  go_wp2_with (at_builtin; go_must (refine wpList_append_g (ok := isT) rfl (.tmp 5) (.tmp 6) 28 rfl w.heap.size 9 i0 (.string ⟨#[]⟩) 1 16 Try.underlying28 hi hz0 hz1 hz2 rfl (by decide) (by simp [Value.cells]; exact ⟨⟨#[]⟩, rfl⟩) (fun _ h => h.one) rfl dst rfl src (isT_tvs L) (by omega) (by unfold maxLen; omega) (by simp) ?_; intro A6 c6 w6 o6 g6 n6; have O6 := hid o6; have X6 : Hid (Ext w w6) := hid (below_of_grown XE.out (by simp) g6 (fun g hg => (by simp at hg; omega))); clear o6 g6 n6 dst src))
  go_ret
  refine ⟨A6, c6, by simp, ?_, X6.out⟩
  simpa using O6.out
set_option maxHeartbeats 1000000 in
theorem better_in (a b : Int) (w : World) : Calls Try.prog 38 #[.int .i64 a, .int .i64 b, .bool false] w fun e w' => e = .returned (.bool (decide (a ≤ b))) ∧ w = w' := by
  go_enter Try.func38, Try.ntmps38
  go_wp2
  go_ret
  exact ⟨rfl, rfl⟩
set_option maxHeartbeats 1000000 in
theorem short_in (n : Int) (w : World) (h : 0 ≤ n ∧ n ≤ 65535) : Calls Try.prog 58 #[.int .i64 n] w fun e w' => e = .returned (.bool true) ∧ w = w' := by
  obtain ⟨h1, h2⟩ := h
  go_enter Try.func58, Try.ntmps58
  go_wp2
  go_ret
  exact ⟨rfl, rfl⟩
def SetOk (s : SetS) : Prop := checkS s.nm = 0 ∧ s.nm.length ≤ 2000000 ∧ (0 ≤ s.ty ∧ s.ty ≤ 65535) ∧ (0 ≤ s.cl ∧ s.cl ≤ 65535) ∧ (0 ≤ s.ttl ∧ s.ttl < 2147483648) ∧ (1 ≤ s.data.length ∧ s.data.length ≤ 64) ∧ s.data.Nodup ∧ ∀ d ∈ s.data, d.length ≤ 65535
open Classical in
noncomputable def tabS (L : List (List UInt8)) : Lit → Option Value := fun x => if ∃ d ∈ L, x = .string d then some (.agg #[]) else none
theorem keyed_str : Keyed Try.prog 9 := string_keyed Try.underlying9
theorem key_str {d : List UInt8} (h : d.length ≤ 65535) : keyOf Try.prog 9 (.string (str d)) = some (.string d) := by
  have := Go.WideMaps.keyOf_string_mk (P := Try.prog) (k := 9) Try.underlying9 (s := str d) (by rw [str_size]; exact Nat.le_trans h (by decide))
  simpa [str] using this
theorem getD_el' {α : Type} {M : List α} {j : Nat} {z : α} (h : j < M.length) : M.getD j z = M[j] := by simp [List.getD, h]
def SkRel (w : World) (mb m : Nat) (data : List (List UInt8)) (iv : Value) (wr : World) : Prop :=
  ∃ j, j ≤ m ∧ iv = .int .i64 (j : Nat) ∧ MapF Try.prog wr 9 mb (tabS (data.take j)) j ∧ Ext w wr ∧ w.heap.size ≤ mb
theorem zero_unit (w : World) : (zeroValue 112).run Try.prog w = .ok (.agg #[]) w := by kernel_rfl
set_option maxHeartbeats 4000000 in
set_option maxRecDepth 100000 in
theorem set_check {w : World} {s : SetS} {A : Option Addr} {c : Nat} (h : RdG w 1 A s.data.length c (tvs s.data)) (hs : SetOk s) :
    Calls Try.prog 34 #[.agg #[.string (str s.nm), .int .i64 s.ty, .int .i64 s.cl, .int .i64 s.ttl, .slice A s.data.length c]] w fun e w' => e = .returned (.int .i64 0) ∧ Ext w w' := by
  obtain ⟨nm, ty, cl, ttl, data⟩ := s
  obtain ⟨g1, g2, ⟨g3, g4⟩, ⟨g5, g6⟩, ⟨g7, g8⟩, ⟨g9, g10⟩, g11, g12⟩ := hs
  simp only at g1 g2 g3 g4 g5 g6 g7 g8 g9 g10 g11 g12 h ⊢
  have xa := ext_alloc w (.cells #[.string (str nm), .int .i64 ty, .int .i64 cl, .int .i64 ttl, .slice A data.length c] 30)
  have CN := check_in nm (w.alloc (.cells #[.string (str nm), .int .i64 ty, .int .i64 cl, .int .i64 ttl, .slice A data.length c] 30)) g2
  rw [g1] at CN
  have CN := hid CN
  have C1 := hid (fun W => short_in ty W ⟨g3, g4⟩)
  have C2 := hid (fun W => short_in cl W ⟨g5, g6⟩)
  have ba := Blk.new w 30 #[.string (str nm), .int .i64 ty, .int .i64 cl, .int .i64 ttl, .slice A data.length c]
  have BA := hid ba
  have XA := hid xa
  have H := hid (h.ext xa)
  have G11 := hid g11
  have G12 := hid g12
  obtain ⟨m, hm⟩ : ∃ m, data.length = m := ⟨_, rfl⟩
  have q1 : ¬ ttl < 0 := by omega
  have q2 : ¬ 2147483648 ≤ ttl := by omega
  rw [hm] at g9 g10 H BA XA CN ⊢
  have q3 : ¬ (m : Int) < 1 := by omega
  have q4 : ¬ (64 : Int) < (m : Int) := by omega
  have hmm := @run_makeMap Try.prog
  have HM := hid hm
  clear h xa ba hm g11 g12
  go_enter Try.func34, Try.ntmps34
  go_wp2_with fail
  refine CN.out.mono ?_
  rintro e w1 ⟨rfl, x1⟩
  have B1 := BA.out.ext x1
  have k1 : w1.cell? ⟨w.heap.size, 1, none⟩ = some (.int .i64 ty) := B1.cell 1
  have k2 : w1.cell? ⟨w.heap.size, 2, none⟩ = some (.int .i64 cl) := B1.cell 2
  have k3 : w1.cell? ⟨w.heap.size, 3, none⟩ = some (.int .i64 ttl) := B1.cell 3
  have k4 : w1.cell? ⟨w.heap.size, 4, none⟩ = some (.slice A m c) := B1.cell 4
  have X1 := hid (ext_trans XA.out x1)
  have H1 := hid (H.out.ext x1)
  have B1 := hid B1
  clear x1
  go_wp2_with fail
  refine (C1.out _).mono ?_
  rintro e _ ⟨rfl, rfl⟩
  go_wp2_with fail
  refine (C2.out _).mono ?_
  rintro e _ ⟨rfl, rfl⟩
  have xm := ext_alloc w1 (.map #[] 0)
  have b2 := B1.out.ext xm
  have m4 : (w1.alloc (.map #[] 0)).cell? ⟨w.heap.size, 4, none⟩ = some (.slice A m c) := b2.cell 4
  have START : Hid (SkRel w1 w1.heap.size m data (.int .i64 0) (w1.alloc (.map #[] 0))) := hid ⟨0, Nat.zero_le _, rfl, (MapF.made w1 Try.prog 9).congr (fun x => by simp [tabS]), xm, Nat.le_refl _⟩
  obtain ⟨mb, hmb⟩ : ∃ mb, w1.heap.size = mb := ⟨_, rfl⟩
  rw [hmb] at START
  have XM := hid xm
  clear xm b2
  go_wp2_with fail
  go_loopw [53] (fun iv wr => SkRel w1 mb m data iv wr) (fun iv _ => m - (intOf iv).toNat)
  case atStart => exact START.out
  case round =>
    obtain ⟨j, hj, rfl, hmf, hx, hmb9⟩ := hrel
    by_cases hlt : j < m
    · have i1 : (j : Int) < (m : Int) := by omega
      have hlt1 : j < data.length := by rw [HM.out]; exact hlt
      have hr := H1.out.ext hx
      have hcell0 := tvs_at (L := data) (k := j) (by rw [HM.out]; exact hr) hlt1
      obtain ⟨b, o, hA, hb, hcell⟩ := hcell0
      rw [getD_el' hlt1] at hcell
      obtain ⟨d, hd⟩ : ∃ d, data[j] = d := ⟨_, rfl⟩
      have hdl : d.length ≤ 65535 := by rw [← hd]; exact G12.out _ (List.getElem_mem hlt1)
      rw [hd] at hcell
      have hno : tabS (data.take j) (.string d) = none := by
        unfold tabS
        rw [if_neg]
        rintro ⟨e, he, h2⟩
        injection h2 with h2
        subst h2
        have h3 := List.getElem_mem hlt1
        have h4 := G11.out
        rw [← List.take_append_drop j data, List.nodup_append] at h4
        refine h4.2.2 d he d ?_ rfl
        rw [← hd]
        refine List.mem_of_getElem? (i := 0) ?_
        rw [List.getElem?_drop, Nat.add_zero, List.getElem?_eq_getElem hlt1]
      have hlk := hmf.look (t := 111) keyed_str Try.underlying111 (zero_unit wr) (key_str hdl) true
      rw [hno] at hlk
      simp only [Option.getD_none, Option.isSome_none, if_true] at hlk
      have xu := ext_alloc wr (.cells #[] 112)
      obtain ⟨w6, hrun, m6, t6⟩ := (hmf.ext xu).store (t := 111) keyed_str Try.underlying111 (by unfold maxLen; omega) (key_str hdl) (.agg #[])
      rw [hno] at m6
      simp only [Option.isSome_none] at m6
      have X6 : Hid (Ext w1 w6) := hid (below_of_grown (ext_trans hx xu) (by have h1 := hx.size; simp; omega) t6.grown (fun g hg => by simp at hg; omega))
      have HDD := hid hd
      have M6 := hid m6
      have HMB := hid hmb9
      have hsz : ¬ (65535 : Int) < ((str d).size : Int) := by rw [str_size]; omega
      subst hA
      clear hmf hx hmb9 hr hd hdl hno m6 t6 xu
      go_wp2_with fail
      go_roundw
      case rel =>
        refine ⟨j + 1, by omega, by go_num, ?_, X6.out, HMB.out⟩
        have h1 := M6.out
        rw [if_neg (by simp)] at h1
        refine h1.congr (fun x => ?_)
        rw [List.take_succ_eq_append_getElem hlt1, HDD.out]
        unfold putF tabS
        by_cases hx : x = .string d
        · rw [if_pos hx, if_pos ⟨d, by simp, hx⟩]
        · rw [if_neg hx]
          congr 1
          simp only [List.mem_append, List.mem_singleton, eq_iff_iff]
          constructor
          · rintro ⟨e, he | he, h2⟩
            · exact ⟨e, he, h2⟩
            · subst he; exact absurd h2 hx
          · rintro ⟨e, he, h2⟩
            exact ⟨e, .inl he, h2⟩
      case measure => simp [intOf]; omega
    · obtain rfl : j = m := by omega
      have i1 : ¬ (j : Int) < (j : Int) := by omega
      have HX := hid hx
      clear hmf hx hmb9
      go_wp2_with fail
      go_ret
      exact ⟨rfl, ext_trans X1.out HX.out⟩
end Go.Proofs.Ytcddfenhkljpeaa

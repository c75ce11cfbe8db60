import Derived.Test.YtcddfenhkljpeaaChcAa
import Derived.Test.YtcddfenhkljpeaaRefA
import Derived.Test.YtcddfenhkljpeaaKitE
/- Layer 23: the document's sets.Check. (Printed by gen_chcba.py.) -/
namespace Go.Proofs.Ytcddfenhkljpeaa
open Go.BK Go.BK.CH Go.BK.NM Go.RowKit Go.Maps
set_option linter.unusedVariables false
set_option linter.unusedSimpArgs false
set_option maxHeartbeats 1000000 in
theorem number_in (n most : Int) (w : World) : Calls Try.prog 64 #[.int .i64 n, .int .i64 most] w fun e w' => e = .returned (.bool (decide (0 ≤ n ∧ n ≤ most))) ∧ w = w' := by
  by_cases h1 : 0 ≤ n
  · by_cases h2 : n ≤ most
    · rw [decide_eq_true ⟨h1, h2⟩]
      go_enter Try.func64, Try.ntmps64
      go_wp2
      go_ret
      exact ⟨rfl, rfl⟩
    · rw [decide_eq_false (fun e => h2 e.2)]
      go_enter Try.func64, Try.ntmps64
      go_wp2
      go_ret
      exact ⟨rfl, rfl⟩
  · rw [decide_eq_false (fun e => h1 e.1)]
    go_enter Try.func64, Try.ntmps64
    go_wp2
    go_ret
    exact ⟨rfl, rfl⟩
def HsRel (L : List (List UInt8)) (s : List UInt8) (w iv : Value) (w0 wr : World) : Prop := ∃ k : Nat, k ≤ L.length ∧ iv = .int .i64 k ∧ s ∉ L.take k ∧ w0 = wr
set_option maxHeartbeats 2000000 in
set_option maxRecDepth 100000 in
theorem has22 {w : World} {A : Option Addr} {c : Nat} {L : List (List UInt8)} (h : RdG w 1 A L.length c (tvs L)) (s : List UInt8) :
    Calls Try.prog 65 #[.slice A L.length c, .string (str s)] w fun e w' => e = .returned (.bool (decide (s ∈ L))) ∧ w = w' := by
  obtain ⟨n, hn⟩ : ∃ n, L.length = n := ⟨_, rfl⟩
  have n9 := h.n_le
  obtain ⟨V, hV⟩ : ∃ V, decide (s ∈ L) = V := ⟨_, rfl⟩
  rw [hV]
  rw [hn] at n9 ⊢
  have HV := hid hV
  have H := hid h
  have HN := hid hn
  clear h hV hn
  go_enter Try.func65, Try.ntmps65
  go_wp2_with fail
  go_loopw [5] (fun iv wr => HsRel L s .nilIface iv w wr) (fun iv _ => n - (intOf iv).toNat)
  case atStart => exact ⟨0, Nat.zero_le _, rfl, by simp, rfl⟩
  case round =>
    obtain ⟨k, hk, rfl, hno, rfl⟩ := hrel
    rw [HN.out] at hk
    by_cases hlt : k < n
    · have i1 : (k : Int) < (n : Int) := by omega
      have hkl : k < L.length := by rw [HN.out]; exact hlt
      obtain ⟨b, o, rfl, hb, hc⟩ := tvs_at H.out hkl
      have et : L.take (k + 1) = L.take k ++ [L.getD k []] := by rw [List.take_succ_eq_append_getElem hkl]; simp [hkl]
      obtain ⟨x, hx⟩ : ∃ x, L.getD k [] = x := ⟨_, rfl⟩
      have hxm : x ∈ L := by rw [← hx, List.getD_eq_getElem?_getD, List.getElem?_eq_getElem hkl]; exact List.getElem_mem _
      rw [hx] at hc et
      by_cases he : x = s
      · have F : V = true := by rw [← HV.out]; exact decide_eq_true (he ▸ hxm)
        have F := hid F
        have q1 : (x == s) = true := by simpa using he
        clear he et hno hxm hx
        go_wp2_with fail
        go_ret
        exact ⟨ret_bool F.out.symm, rfl⟩
      · have REL : HsRel L s .nilIface (.int .i64 ((k : Int) + 1)) w w := ⟨k + 1, hkl, by go_num, by rw [et]; simp only [List.mem_append, List.mem_singleton, not_or]; exact ⟨hno, fun e => he e.symm⟩, rfl⟩
        have REL := hid REL
        have q1 : (x == s) = false := by simpa using he
        clear he et hno hxm hx
        go_wp2_with fail
        go_roundw
        case rel => exact REL.out
        case measure => simp [intOf]; omega
    · obtain rfl : k = n := by omega
      have F : V = false := by
        rw [← HV.out]
        rw [← HN.out, List.take_length] at hno
        exact decide_eq_false hno
      have F := hid F
      clear hno
      go_wp2_with fail
      go_ret
      exact ⟨ret_bool F.out.symm, rfl⟩
set_option maxHeartbeats 4000000 in
set_option maxRecDepth 100000 in
theorem ref_bad1 {w : World} {s : SetS} {A : Option Addr} {c : Nat} (h : RdG w 1 A s.data.length c (tvs s.data)) (hn : s.nm.length ≤ 2000000) (h1 : checkS s.nm ≠ 0) :
    Calls Try.prog 54 #[.agg #[.string (str s.nm), .int .i64 s.ty, .int .i64 s.cl, .int .i64 s.ttl, .slice A s.data.length c]] w fun e w' => e = .returned (.int .i64 2) ∧ Ext w w' := by
  obtain ⟨nm, ty, cl, ttl, data⟩ := s
  simp only at *
  have xa := ext_alloc w (.cells #[.string (str nm), .int .i64 ty, .int .i64 cl, .int .i64 ttl, .slice A data.length c] 30)
  have CN := ref_check nm (w.alloc (.cells #[.string (str nm), .int .i64 ty, .int .i64 cl, .int .i64 ttl, .slice A data.length c] 30)) hn
  obtain ⟨q, hq⟩ : ∃ q, checkS nm = q := ⟨_, rfl⟩
  rw [hq] at CN h1
  have CN := hid CN
  have b1 : (q == 0) = false := by simpa using h1
  have b2 : (q != 0) = true := by simpa using h1
  clear h1
  have ba := Blk.new w 30 #[.string (str nm), .int .i64 ty, .int .i64 cl, .int .i64 ttl, .slice A data.length c]
  have BA := hid ba
  have XA := hid xa
  have hnl := h.n_le
  obtain ⟨m, hm⟩ : ∃ m, data.length = m := ⟨_, rfl⟩
  simp only [hm] at *
  clear h xa ba hm hn hq
  go_enter Try.func54, Try.ntmps54
  go_wp2_with fail
  refine CN.out.mono ?_
  rintro e w1 ⟨rfl, x1⟩
  have B1 := BA.out.ext x1
  have k1 : w1.cell? ⟨w.heap.size, 1, none⟩ = some (.int .i64 ty) := B1.cell 1
  have k2 : w1.cell? ⟨w.heap.size, 2, none⟩ = some (.int .i64 cl) := B1.cell 2
  have k3 : w1.cell? ⟨w.heap.size, 3, none⟩ = some (.int .i64 ttl) := B1.cell 3
  have k4 : w1.cell? ⟨w.heap.size, 4, none⟩ = some (.slice A m c) := B1.cell 4
  have X1 := hid (ext_trans XA.out x1)
  clear x1 B1
  go_wp2_with fail
  go_ret
  exact ⟨rfl, X1.out⟩
set_option maxHeartbeats 4000000 in
set_option maxRecDepth 100000 in
theorem ref_bad2 {w : World} {s : SetS} {A : Option Addr} {c : Nat} (h : RdG w 1 A s.data.length c (tvs s.data)) (hn : s.nm.length ≤ 2000000) (h1 : checkS s.nm = 0) (h2 : ¬ (0 ≤ s.ty ∧ s.ty ≤ 65535)) :
    Calls Try.prog 54 #[.agg #[.string (str s.nm), .int .i64 s.ty, .int .i64 s.cl, .int .i64 s.ttl, .slice A s.data.length c]] w fun e w' => e = .returned (.int .i64 2) ∧ Ext w w' := by
  obtain ⟨nm, ty, cl, ttl, data⟩ := s
  simp only at *
  have xa := ext_alloc w (.cells #[.string (str nm), .int .i64 ty, .int .i64 cl, .int .i64 ttl, .slice A data.length c] 30)
  have CN := ref_check nm (w.alloc (.cells #[.string (str nm), .int .i64 ty, .int .i64 cl, .int .i64 ttl, .slice A data.length c] 30)) hn
  obtain ⟨q, hq⟩ : ∃ q, checkS nm = q := ⟨_, rfl⟩
  rw [hq] at CN h1
  have CN := hid CN
  have b1 : (q == 0) = true := by simp [h1]
  have b2 : (q != 0) = false := by simp [h1]
  clear h1
  have C1 := fun W => number_in ty 65535 W
  rw [decide_eq_false h2] at C1
  have C1 := hid C1
  clear h2
  have ba := Blk.new w 30 #[.string (str nm), .int .i64 ty, .int .i64 cl, .int .i64 ttl, .slice A data.length c]
  have BA := hid ba
  have XA := hid xa
  have hnl := h.n_le
  obtain ⟨m, hm⟩ : ∃ m, data.length = m := ⟨_, rfl⟩
  simp only [hm] at *
  clear h xa ba hm hn hq
  go_enter Try.func54, Try.ntmps54
  go_wp2_with fail
  refine CN.out.mono ?_
  rintro e w1 ⟨rfl, x1⟩
  have B1 := BA.out.ext x1
  have k1 : w1.cell? ⟨w.heap.size, 1, none⟩ = some (.int .i64 ty) := B1.cell 1
  have k2 : w1.cell? ⟨w.heap.size, 2, none⟩ = some (.int .i64 cl) := B1.cell 2
  have k3 : w1.cell? ⟨w.heap.size, 3, none⟩ = some (.int .i64 ttl) := B1.cell 3
  have k4 : w1.cell? ⟨w.heap.size, 4, none⟩ = some (.slice A m c) := B1.cell 4
  have X1 := hid (ext_trans XA.out x1)
  clear x1 B1
  go_wp2_with fail
  refine (C1.out _).mono ?_
  rintro e _ ⟨rfl, rfl⟩
  go_wp2_with fail
  go_ret
  exact ⟨rfl, X1.out⟩
set_option maxHeartbeats 4000000 in
set_option maxRecDepth 100000 in
theorem ref_bad3 {w : World} {s : SetS} {A : Option Addr} {c : Nat} (h : RdG w 1 A s.data.length c (tvs s.data)) (hn : s.nm.length ≤ 2000000) (h1 : checkS s.nm = 0) (h2 : 0 ≤ s.ty ∧ s.ty ≤ 65535) (h3 : ¬ (0 ≤ s.cl ∧ s.cl ≤ 65535)) :
    Calls Try.prog 54 #[.agg #[.string (str s.nm), .int .i64 s.ty, .int .i64 s.cl, .int .i64 s.ttl, .slice A s.data.length c]] w fun e w' => e = .returned (.int .i64 2) ∧ Ext w w' := by
  obtain ⟨nm, ty, cl, ttl, data⟩ := s
  simp only at *
  have xa := ext_alloc w (.cells #[.string (str nm), .int .i64 ty, .int .i64 cl, .int .i64 ttl, .slice A data.length c] 30)
  have CN := ref_check nm (w.alloc (.cells #[.string (str nm), .int .i64 ty, .int .i64 cl, .int .i64 ttl, .slice A data.length c] 30)) hn
  obtain ⟨q, hq⟩ : ∃ q, checkS nm = q := ⟨_, rfl⟩
  rw [hq] at CN h1
  have CN := hid CN
  have b1 : (q == 0) = true := by simp [h1]
  have b2 : (q != 0) = false := by simp [h1]
  clear h1
  have C1 := fun W => number_in ty 65535 W
  rw [decide_eq_true h2] at C1
  have C1 := hid C1
  clear h2
  have C2 := fun W => number_in cl 65535 W
  rw [decide_eq_false h3] at C2
  have C2 := hid C2
  clear h3
  have ba := Blk.new w 30 #[.string (str nm), .int .i64 ty, .int .i64 cl, .int .i64 ttl, .slice A data.length c]
  have BA := hid ba
  have XA := hid xa
  have hnl := h.n_le
  obtain ⟨m, hm⟩ : ∃ m, data.length = m := ⟨_, rfl⟩
  simp only [hm] at *
  clear h xa ba hm hn hq
  go_enter Try.func54, Try.ntmps54
  go_wp2_with fail
  refine CN.out.mono ?_
  rintro e w1 ⟨rfl, x1⟩
  have B1 := BA.out.ext x1
  have k1 : w1.cell? ⟨w.heap.size, 1, none⟩ = some (.int .i64 ty) := B1.cell 1
  have k2 : w1.cell? ⟨w.heap.size, 2, none⟩ = some (.int .i64 cl) := B1.cell 2
  have k3 : w1.cell? ⟨w.heap.size, 3, none⟩ = some (.int .i64 ttl) := B1.cell 3
  have k4 : w1.cell? ⟨w.heap.size, 4, none⟩ = some (.slice A m c) := B1.cell 4
  have X1 := hid (ext_trans XA.out x1)
  clear x1 B1
  go_wp2_with fail
  refine (C1.out _).mono ?_
  rintro e _ ⟨rfl, rfl⟩
  go_wp2_with fail
  refine (C2.out _).mono ?_
  rintro e _ ⟨rfl, rfl⟩
  go_wp2_with fail
  go_ret
  exact ⟨rfl, X1.out⟩
set_option maxHeartbeats 4000000 in
set_option maxRecDepth 100000 in
theorem ref_bad4 {w : World} {s : SetS} {A : Option Addr} {c : Nat} (h : RdG w 1 A s.data.length c (tvs s.data)) (hn : s.nm.length ≤ 2000000) (h1 : checkS s.nm = 0) (h2 : 0 ≤ s.ty ∧ s.ty ≤ 65535) (h3 : 0 ≤ s.cl ∧ s.cl ≤ 65535) (h4 : ¬ (0 ≤ s.ttl ∧ s.ttl ≤ 2147483647)) :
    Calls Try.prog 54 #[.agg #[.string (str s.nm), .int .i64 s.ty, .int .i64 s.cl, .int .i64 s.ttl, .slice A s.data.length c]] w fun e w' => e = .returned (.int .i64 2) ∧ Ext w w' := by
  obtain ⟨nm, ty, cl, ttl, data⟩ := s
  simp only at *
  have xa := ext_alloc w (.cells #[.string (str nm), .int .i64 ty, .int .i64 cl, .int .i64 ttl, .slice A data.length c] 30)
  have CN := ref_check nm (w.alloc (.cells #[.string (str nm), .int .i64 ty, .int .i64 cl, .int .i64 ttl, .slice A data.length c] 30)) hn
  obtain ⟨q, hq⟩ : ∃ q, checkS nm = q := ⟨_, rfl⟩
  rw [hq] at CN h1
  have CN := hid CN
  have b1 : (q == 0) = true := by simp [h1]
  have b2 : (q != 0) = false := by simp [h1]
  clear h1
  have C1 := fun W => number_in ty 65535 W
  rw [decide_eq_true h2] at C1
  have C1 := hid C1
  clear h2
  have C2 := fun W => number_in cl 65535 W
  rw [decide_eq_true h3] at C2
  have C2 := hid C2
  clear h3
  have C3 := fun W => number_in ttl 2147483647 W
  rw [decide_eq_false h4] at C3
  have C3 := hid C3
  clear h4
  have ba := Blk.new w 30 #[.string (str nm), .int .i64 ty, .int .i64 cl, .int .i64 ttl, .slice A data.length c]
  have BA := hid ba
  have XA := hid xa
  have hnl := h.n_le
  obtain ⟨m, hm⟩ : ∃ m, data.length = m := ⟨_, rfl⟩
  simp only [hm] at *
  clear h xa ba hm hn hq
  go_enter Try.func54, Try.ntmps54
  go_wp2_with fail
  refine CN.out.mono ?_
  rintro e w1 ⟨rfl, x1⟩
  have B1 := BA.out.ext x1
  have k1 : w1.cell? ⟨w.heap.size, 1, none⟩ = some (.int .i64 ty) := B1.cell 1
  have k2 : w1.cell? ⟨w.heap.size, 2, none⟩ = some (.int .i64 cl) := B1.cell 2
  have k3 : w1.cell? ⟨w.heap.size, 3, none⟩ = some (.int .i64 ttl) := B1.cell 3
  have k4 : w1.cell? ⟨w.heap.size, 4, none⟩ = some (.slice A m c) := B1.cell 4
  have X1 := hid (ext_trans XA.out x1)
  clear x1 B1
  go_wp2_with fail
  refine (C1.out _).mono ?_
  rintro e _ ⟨rfl, rfl⟩
  go_wp2_with fail
  refine (C2.out _).mono ?_
  rintro e _ ⟨rfl, rfl⟩
  go_wp2_with fail
  refine (C3.out _).mono ?_
  rintro e _ ⟨rfl, rfl⟩
  go_wp2_with fail
  go_ret
  exact ⟨rfl, X1.out⟩
set_option maxHeartbeats 4000000 in
set_option maxRecDepth 100000 in
theorem ref_bad6 {w : World} {s : SetS} {A : Option Addr} {c : Nat} (h : RdG w 1 A s.data.length c (tvs s.data)) (hn : s.nm.length ≤ 2000000) (h1 : checkS s.nm = 0) (h2 : 0 ≤ s.ty ∧ s.ty ≤ 65535) (h3 : 0 ≤ s.cl ∧ s.cl ≤ 65535) (h4 : 0 ≤ s.ttl ∧ s.ttl ≤ 2147483647) (h6 : (s.data.length : Int) < 1) :
    Calls Try.prog 54 #[.agg #[.string (str s.nm), .int .i64 s.ty, .int .i64 s.cl, .int .i64 s.ttl, .slice A s.data.length c]] w fun e w' => e = .returned (.int .i64 2) ∧ Ext w w' := by
  obtain ⟨nm, ty, cl, ttl, data⟩ := s
  simp only at *
  have xa := ext_alloc w (.cells #[.string (str nm), .int .i64 ty, .int .i64 cl, .int .i64 ttl, .slice A data.length c] 30)
  have CN := ref_check nm (w.alloc (.cells #[.string (str nm), .int .i64 ty, .int .i64 cl, .int .i64 ttl, .slice A data.length c] 30)) hn
  obtain ⟨q, hq⟩ : ∃ q, checkS nm = q := ⟨_, rfl⟩
  rw [hq] at CN h1
  have CN := hid CN
  have b1 : (q == 0) = true := by simp [h1]
  have b2 : (q != 0) = false := by simp [h1]
  clear h1
  have C1 := fun W => number_in ty 65535 W
  rw [decide_eq_true h2] at C1
  have C1 := hid C1
  clear h2
  have C2 := fun W => number_in cl 65535 W
  rw [decide_eq_true h3] at C2
  have C2 := hid C2
  clear h3
  have C3 := fun W => number_in ttl 2147483647 W
  rw [decide_eq_true h4] at C3
  have C3 := hid C3
  clear h4
  have ba := Blk.new w 30 #[.string (str nm), .int .i64 ty, .int .i64 cl, .int .i64 ttl, .slice A data.length c]
  have BA := hid ba
  have XA := hid xa
  have hnl := h.n_le
  obtain ⟨m, hm⟩ : ∃ m, data.length = m := ⟨_, rfl⟩
  simp only [hm] at *
  clear h xa ba hm hn hq
  go_enter Try.func54, Try.ntmps54
  go_wp2_with fail
  refine CN.out.mono ?_
  rintro e w1 ⟨rfl, x1⟩
  have B1 := BA.out.ext x1
  have k1 : w1.cell? ⟨w.heap.size, 1, none⟩ = some (.int .i64 ty) := B1.cell 1
  have k2 : w1.cell? ⟨w.heap.size, 2, none⟩ = some (.int .i64 cl) := B1.cell 2
  have k3 : w1.cell? ⟨w.heap.size, 3, none⟩ = some (.int .i64 ttl) := B1.cell 3
  have k4 : w1.cell? ⟨w.heap.size, 4, none⟩ = some (.slice A m c) := B1.cell 4
  have X1 := hid (ext_trans XA.out x1)
  clear x1 B1
  go_wp2_with fail
  refine (C1.out _).mono ?_
  rintro e _ ⟨rfl, rfl⟩
  go_wp2_with fail
  refine (C2.out _).mono ?_
  rintro e _ ⟨rfl, rfl⟩
  go_wp2_with fail
  refine (C3.out _).mono ?_
  rintro e _ ⟨rfl, rfl⟩
  go_wp2_with fail
  go_ret
  exact ⟨rfl, X1.out⟩
set_option maxHeartbeats 4000000 in
set_option maxRecDepth 100000 in
theorem ref_bad7 {w : World} {s : SetS} {A : Option Addr} {c : Nat} (h : RdG w 1 A s.data.length c (tvs s.data)) (hn : s.nm.length ≤ 2000000) (h1 : checkS s.nm = 0) (h2 : 0 ≤ s.ty ∧ s.ty ≤ 65535) (h3 : 0 ≤ s.cl ∧ s.cl ≤ 65535) (h4 : 0 ≤ s.ttl ∧ s.ttl ≤ 2147483647) (h6 : ¬ (s.data.length : Int) < 1) (h7 : (64 : Int) < (s.data.length : Int)) :
    Calls Try.prog 54 #[.agg #[.string (str s.nm), .int .i64 s.ty, .int .i64 s.cl, .int .i64 s.ttl, .slice A s.data.length c]] w fun e w' => e = .returned (.int .i64 2) ∧ Ext w w' := by
  obtain ⟨nm, ty, cl, ttl, data⟩ := s
  simp only at *
  have xa := ext_alloc w (.cells #[.string (str nm), .int .i64 ty, .int .i64 cl, .int .i64 ttl, .slice A data.length c] 30)
  have CN := ref_check nm (w.alloc (.cells #[.string (str nm), .int .i64 ty, .int .i64 cl, .int .i64 ttl, .slice A data.length c] 30)) hn
  obtain ⟨q, hq⟩ : ∃ q, checkS nm = q := ⟨_, rfl⟩
  rw [hq] at CN h1
  have CN := hid CN
  have b1 : (q == 0) = true := by simp [h1]
  have b2 : (q != 0) = false := by simp [h1]
  clear h1
  have C1 := fun W => number_in ty 65535 W
  rw [decide_eq_true h2] at C1
  have C1 := hid C1
  clear h2
  have C2 := fun W => number_in cl 65535 W
  rw [decide_eq_true h3] at C2
  have C2 := hid C2
  clear h3
  have C3 := fun W => number_in ttl 2147483647 W
  rw [decide_eq_true h4] at C3
  have C3 := hid C3
  clear h4
  have ba := Blk.new w 30 #[.string (str nm), .int .i64 ty, .int .i64 cl, .int .i64 ttl, .slice A data.length c]
  have BA := hid ba
  have XA := hid xa
  have hnl := h.n_le
  obtain ⟨m, hm⟩ : ∃ m, data.length = m := ⟨_, rfl⟩
  simp only [hm] at *
  clear h xa ba hm hn hq
  go_enter Try.func54, Try.ntmps54
  go_wp2_with fail
  refine CN.out.mono ?_
  rintro e w1 ⟨rfl, x1⟩
  have B1 := BA.out.ext x1
  have k1 : w1.cell? ⟨w.heap.size, 1, none⟩ = some (.int .i64 ty) := B1.cell 1
  have k2 : w1.cell? ⟨w.heap.size, 2, none⟩ = some (.int .i64 cl) := B1.cell 2
  have k3 : w1.cell? ⟨w.heap.size, 3, none⟩ = some (.int .i64 ttl) := B1.cell 3
  have k4 : w1.cell? ⟨w.heap.size, 4, none⟩ = some (.slice A m c) := B1.cell 4
  have X1 := hid (ext_trans XA.out x1)
  clear x1 B1
  go_wp2_with fail
  refine (C1.out _).mono ?_
  rintro e _ ⟨rfl, rfl⟩
  go_wp2_with fail
  refine (C2.out _).mono ?_
  rintro e _ ⟨rfl, rfl⟩
  go_wp2_with fail
  refine (C3.out _).mono ?_
  rintro e _ ⟨rfl, rfl⟩
  go_wp2_with fail
  go_ret
  exact ⟨rfl, X1.out⟩
def RcRel (data : List (List UInt8)) (w1 : World) (iv : Value) (wr : World) : Prop := ∃ k : Nat, k ≤ data.length ∧ iv = .int .i64 k ∧ (data.take k).Nodup ∧ Ext w1 wr
set_option maxHeartbeats 4000000 in
set_option maxRecDepth 100000 in
theorem ref_loop {w : World} {s : SetS} {A : Option Addr} {c : Nat} (h : RdG w 1 A s.data.length c (tvs s.data)) (hn : s.nm.length ≤ 2000000) (h1 : checkS s.nm = 0) (h2 : 0 ≤ s.ty ∧ s.ty ≤ 65535) (h3 : 0 ≤ s.cl ∧ s.cl ≤ 65535) (h4 : 0 ≤ s.ttl ∧ s.ttl ≤ 2147483647) (h6 : ¬ (s.data.length : Int) < 1) (h7 : ¬ (64 : Int) < (s.data.length : Int)) (hd : ∀ d ∈ s.data, d.length ≤ 65535) :
    Calls Try.prog 54 #[.agg #[.string (str s.nm), .int .i64 s.ty, .int .i64 s.cl, .int .i64 s.ttl, .slice A s.data.length c]] w fun e w' => e = .returned (.int .i64 (if s.data.Nodup then 0 else 2)) ∧ Ext w w' := by
  obtain ⟨nm, ty, cl, ttl, data⟩ := s
  simp only at *
  have xa := ext_alloc w (.cells #[.string (str nm), .int .i64 ty, .int .i64 cl, .int .i64 ttl, .slice A data.length c] 30)
  have CN := ref_check nm (w.alloc (.cells #[.string (str nm), .int .i64 ty, .int .i64 cl, .int .i64 ttl, .slice A data.length c] 30)) hn
  obtain ⟨q, hq⟩ : ∃ q, checkS nm = q := ⟨_, rfl⟩
  rw [hq] at CN h1
  have CN := hid CN
  have b1 : (q == 0) = true := by simp [h1]
  have b2 : (q != 0) = false := by simp [h1]
  clear h1
  have C1 := fun W => number_in ty 65535 W
  rw [decide_eq_true h2] at C1
  have C1 := hid C1
  clear h2
  have C2 := fun W => number_in cl 65535 W
  rw [decide_eq_true h3] at C2
  have C2 := hid C2
  clear h3
  have C3 := fun W => number_in ttl 2147483647 W
  rw [decide_eq_true h4] at C3
  have C3 := hid C3
  clear h4
  obtain ⟨V, hV⟩ : ∃ V, (if data.Nodup then (0 : Int) else 2) = V := ⟨_, rfl⟩
  rw [hV]
  have HV := hid hV
  clear hV
  have H := hid h
  have HDL := hid hd
  clear hd
  have ba := Blk.new w 30 #[.string (str nm), .int .i64 ty, .int .i64 cl, .int .i64 ttl, .slice A data.length c]
  have BA := hid ba
  have XA := hid xa
  have hnl := h.n_le
  obtain ⟨m, hm⟩ : ∃ m, data.length = m := ⟨_, rfl⟩
  have HM := hid hm
  rw [hm] at hnl h6 h7 BA XA CN ⊢
  have BLT := ba.lt
  have HGS0 := BLT
  clear h xa ba hm hn hq
  go_enter Try.func54, Try.ntmps54
  go_wp2_with fail
  refine CN.out.mono ?_
  rintro e w1 ⟨rfl, x1⟩
  have B1 := BA.out.ext x1
  have k1 : w1.cell? ⟨w.heap.size, 1, none⟩ = some (.int .i64 ty) := B1.cell 1
  have k2 : w1.cell? ⟨w.heap.size, 2, none⟩ = some (.int .i64 cl) := B1.cell 2
  have k3 : w1.cell? ⟨w.heap.size, 3, none⟩ = some (.int .i64 ttl) := B1.cell 3
  have k4 : w1.cell? ⟨w.heap.size, 4, none⟩ = some (.slice A m c) := B1.cell 4
  have XQ := hid x1
  have X1 := hid (ext_trans XA.out x1)
  clear x1 B1
  go_wp2_with fail
  refine (C1.out _).mono ?_
  rintro e _ ⟨rfl, rfl⟩
  go_wp2_with fail
  refine (C2.out _).mono ?_
  rintro e _ ⟨rfl, rfl⟩
  go_wp2_with fail
  refine (C3.out _).mono ?_
  rintro e _ ⟨rfl, rfl⟩
  have B1 := hid (BA.out.ext (show Ext _ w1 from XQ.out))
  obtain ⟨gs, hgs⟩ : ∃ gs, w.heap.size = gs := ⟨_, rfl⟩
  rw [hgs] at B1 k1 k2 k3 k4 ⊢
  have H1 := hid (H.out.ext X1.out)
  have HGS := hid hgs
  clear hgs k1 k2 k3
  go_wp2_with fail
  clear k4
  go_loopw [3] (fun iv wr => RcRel data w1 iv wr) (fun iv _ => m - (intOf iv).toNat)
  case atStart => exact ⟨0, Nat.zero_le _, rfl, by simp, ext_refl _⟩
  case round =>
    obtain ⟨k, hk, rfl, hnd, hx⟩ := hrel
    rw [HM.out] at hk
    have B2 := B1.out.ext hx
    have k4 : wr.cell? ⟨gs, 4, none⟩ = some (.slice A m c) := B2.cell 4
    by_cases hlt : k < m
    · have i1 : (k : Int) < (m : Int) := by omega
      have i2 : k < m := hlt
      have hkl : k < data.length := by rw [HM.out]; exact hlt
      obtain ⟨b, o, rfl, hb, hc⟩ := tvs_at (H1.out.ext hx) hkl
      have et : data.take (k + 1) = data.take k ++ [data.getD k []] := by rw [List.take_succ_eq_append_getElem hkl]; simp [hkl]
      have hdl := HDL.out (data.getD k []) (by rw [List.getD_eq_getElem?_getD, List.getElem?_eq_getElem hkl]; exact List.getElem_mem _)
      obtain ⟨x, hx0⟩ : ∃ x, data.getD k [] = x := ⟨_, rfl⟩
      rw [hx0] at hc et hdl
      obtain ⟨xs, hxs⟩ : ∃ xs, str x = xs := ⟨_, rfl⟩
      have hsz : xs.size = x.length := by rw [← hxs, str_size]
      rw [hxs] at hc
      have hcut := RdG.cut (H1.out.ext hx) (i := 0) (j := k) (A' := some ⟨b, o, none⟩) (Nat.zero_le _) (by omega) (fun _ => by simp [Addr.add])
      have hcut : RdG wr 1 (some ⟨b, o, none⟩) (data.take k).length c (tvs (data.take k)) := by
        have e1 : (data.take k).length = k := by rw [List.length_take]; omega
        rw [e1]
        simpa [tvs, List.map_take] using hcut
      have CH := fun W (y : Ext wr W) => has22 (hcut.ext y) x
      have e1 : (data.take k).length = k := by rw [List.length_take]; omega
      obtain ⟨vb, hvb⟩ : ∃ vb, decide (x ∈ data.take k) = vb := ⟨_, rfl⟩
      rw [e1, hxs, hvb] at CH
      have CH := hid CH
      have g1 : decide ((65535 : Int) < (xs.size : Int)) = false := by simp; omega
      have g2 : decide (65535 < xs.size) = false := by simp; omega
      have KEEP : Hid (∀ W, Ext wr W → W.cell? ⟨gs, 4, none⟩ = some (.slice (some ⟨b, o, none⟩) m c) ∧ W.cell? ⟨b, o + k, none⟩ = some (.string xs)) := hid (fun W y => ⟨(B2.ext y).cell 4, (y.cell (p := ⟨b, o + k, none⟩) hb).trans hc⟩)
      have HXX := hid hx
      have HET := hid et
      have HND := hid hnd
      have HVB := hid hvb
      have i3 : k ≤ c := by have := H1.out.2.1; rw [HM.out] at this; omega
      have i4 : (k : Int) ≤ (c : Int) := by omega
      clear hcut hx et hnd hvb hx0 hxs hc B2 e1 hsz
      go_upto_region 6 with (fail)
      clear k4
      refine wp_region_noPanic ?_
      refine region_E (S := fun W => W.cell? ⟨gs, 4, none⟩ = some (.slice (some ⟨b, o, none⟩) m c) ∧ W.cell? ⟨b, o + k, none⟩ = some (.string xs)) 18 (by kernel_rfl) (by kernel_rfl) (by kernel_rfl) ?_
      refine EG_take 0 (v := ?v1) (by simp only [lga, lgb, lgc]; rfl) (by kernel_rfl) (by kernel_rfl) (by decide) (fun _ _ _ h => h) (Or.inl ⟨by rfl, ?hy1⟩) (KEEP.out _ (ext_drew _)) ?rest1
      case hy1 => intro W hSW; (try dsimp only at hSW); obtain ⟨e0, e1⟩ := hSW; go_simp <;> with_reducible rfl
      try simp only [Act.put, lsa, lsb, lsc]
      refine EG_take 1 (v := ?v2) (by simp only [lga, lgb, lgc]; rfl) (by kernel_rfl) (by kernel_rfl) (by decide) (fun _ _ _ h => h) (Or.inl ⟨by rfl, ?hy2⟩) (KEEP.out _ (ext_drew _)) ?rest2
      case hy2 => intro W hSW; (try dsimp only at hSW); obtain ⟨e0, e1⟩ := hSW; go_simp <;> with_reducible rfl
      try simp only [Act.put, lsa, lsb, lsc]
      refine EG_take 2 (v := ?v3) (by simp only [lga, lgb, lgc]; rfl) (by kernel_rfl) (by kernel_rfl) (by decide) (fun _ _ _ h => h) (Or.inl ⟨by rfl, ?hy3⟩) (KEEP.out _ (ext_drew _)) ?rest3
      case hy3 => intro W hSW; (try dsimp only at hSW); obtain ⟨e0, e1⟩ := hSW; go_simp <;> with_reducible rfl
      try simp only [Act.put, lsa, lsb, lsc]
      refine EG_take 3 (v := ?v4) (by simp only [lga, lgb, lgc]; rfl) (by kernel_rfl) (by kernel_rfl) (by decide) (fun _ _ _ h => h) (Or.inl ⟨by rfl, ?hy4⟩) (KEEP.out _ (ext_drew _)) ?rest4
      case hy4 => intro W hSW; (try dsimp only at hSW); obtain ⟨e0, e1⟩ := hSW; go_simp <;> with_reducible rfl
      try simp only [Act.put, lsa, lsb, lsc]
      refine EG_take 4 (v := ?v5) (by simp only [lga, lgb, lgc]; rfl) (by kernel_rfl) (by kernel_rfl) (by decide) (fun _ _ _ h => h) (Or.inl ⟨by rfl, ?hy5⟩) (KEEP.out _ (ext_drew _)) ?rest5
      case hy5 => intro W hSW; (try dsimp only at hSW); obtain ⟨e0, e1⟩ := hSW; go_simp <;> with_reducible rfl
      try simp only [Act.put, lsa, lsb, lsc]
      refine EG_take 5 (v := ?v6) (by simp only [lga, lgb, lgc]; rfl) (by kernel_rfl) (by kernel_rfl) (by decide) (fun _ _ _ h => h) (Or.inl ⟨by rfl, ?hy6⟩) (KEEP.out _ (ext_drew _)) ?rest6
      case hy6 => intro W hSW; (try dsimp only at hSW); obtain ⟨e0, e1⟩ := hSW; go_simp <;> with_reducible rfl
      try simp only [Act.put, lsa, lsb, lsc]
      refine EG_take 6 (v := ?v7) (by simp only [lga, lgb, lgc]; rfl) (by kernel_rfl) (by kernel_rfl) (by decide) (fun _ _ _ h => h) (Or.inl ⟨by rfl, ?hy7⟩) (KEEP.out _ (ext_drew _)) ?rest7
      case hy7 => intro W hSW; (try dsimp only at hSW); obtain ⟨e0, e1⟩ := hSW; go_simp <;> with_reducible rfl
      try simp only [Act.put, lsa, lsb, lsc]
      refine EG_take 7 (v := ?v8) (by simp only [lga, lgb, lgc]; rfl) (by kernel_rfl) (by kernel_rfl) (by decide) (fun _ _ _ h => h) (Or.inl ⟨by rfl, ?hy8⟩) (KEEP.out _ (ext_drew _)) ?rest8
      case hy8 => intro W hSW; (try dsimp only at hSW); obtain ⟨e0, e1⟩ := hSW; go_simp <;> with_reducible rfl
      try simp only [Act.put, lsa, lsb, lsc]
      refine EG_take 8 (v := ?v9) (by simp only [lga, lgb, lgc]; rfl) (by kernel_rfl) (by kernel_rfl) (by decide) (fun _ _ _ h => h) (Or.inl ⟨by rfl, ?hy9⟩) (KEEP.out _ (ext_drew _)) ?rest9
      case hy9 => intro W hSW; (try dsimp only at hSW); obtain ⟨e0, e1⟩ := hSW; go_simp <;> with_reducible rfl
      try simp only [Act.put, lsa, lsb, lsc]
      refine EG_take 9 (v := ?v10) (by simp only [lga, lgb, lgc]; rfl) (by kernel_rfl) (by kernel_rfl) (by decide) (fun _ _ _ h => h) (Or.inl ⟨by rfl, ?hy10⟩) (KEEP.out _ (ext_drew _)) ?rest10
      case hy10 => intro W hSW; (try dsimp only at hSW); obtain ⟨e0, e1⟩ := hSW; go_simp <;> with_reducible rfl
      try simp only [Act.put, lsa, lsb, lsc]
      refine EG_take 10 (v := ?v11) (by simp only [lga, lgb, lgc]; rfl) (by kernel_rfl) (by kernel_rfl) (by decide) (fun _ _ _ h => h) (Or.inl ⟨by rfl, ?hy11⟩) (KEEP.out _ (ext_drew _)) ?rest11
      case hy11 => intro W hSW; (try dsimp only at hSW); obtain ⟨e0, e1⟩ := hSW; go_simp <;> with_reducible rfl
      try simp only [Act.put, lsa, lsb, lsc]
      refine EG_take 11 (v := ?v12) (by simp only [lga, lgb, lgc]; rfl) (by kernel_rfl) (by kernel_rfl) (by decide) (fun _ _ _ h => h) (Or.inl ⟨by rfl, ?hy12⟩) (KEEP.out _ (ext_drew _)) ?rest12
      case hy12 => intro W hSW; (try dsimp only at hSW); obtain ⟨e0, e1⟩ := hSW; go_simp <;> with_reducible rfl
      try simp only [Act.put, lsa, lsb, lsc]
      refine EG_take 12 (v := ?v13) (by simp only [lga, lgb, lgc]; rfl) (by kernel_rfl) (by kernel_rfl) (by decide) (fun _ _ _ h => h) (Or.inl ⟨by rfl, ?hy13⟩) (KEEP.out _ (ext_drew _)) ?rest13
      case hy13 => intro W hSW; (try dsimp only at hSW); obtain ⟨e0, e1⟩ := hSW; go_simp <;> with_reducible rfl
      try simp only [Act.put, lsa, lsb, lsc]
      refine EG_take 13 (v := ?v14) (by simp only [lga, lgb, lgc]; rfl) (by kernel_rfl) (by kernel_rfl) (by decide) (fun _ _ _ h => h) (Or.inl ⟨by rfl, ?hy14⟩) (KEEP.out _ (ext_drew _)) ?rest14
      case hy14 => intro W hSW; (try dsimp only at hSW); obtain ⟨e0, e1⟩ := hSW; go_simp <;> with_reducible rfl
      try simp only [Act.put, lsa, lsb, lsc]
      refine EG_take 14 (v := ?v15) (by simp only [lga, lgb, lgc]; rfl) (by kernel_rfl) (by kernel_rfl) (by decide) (fun _ _ _ h => h) (Or.inl ⟨by rfl, ?hy15⟩) (KEEP.out _ (ext_drew _)) ?rest15
      case hy15 => intro W hSW; (try dsimp only at hSW); obtain ⟨e0, e1⟩ := hSW; go_simp <;> with_reducible rfl
      try simp only [Act.put, lsa, lsb, lsc]
      refine EG_take 15 (v := ?v16) (by simp only [lga, lgb, lgc]; rfl) (by kernel_rfl) (by kernel_rfl) (by decide) (fun _ _ _ h => h) (Or.inl ⟨by rfl, ?hy16⟩) (KEEP.out _ (ext_drew _)) ?rest16
      case hy16 => intro W hSW; (try dsimp only at hSW); obtain ⟨e0, e1⟩ := hSW; go_simp <;> with_reducible rfl
      try simp only [Act.put, lsa, lsb, lsc]
      refine EG_take 16 (v := ?v17) (by simp only [lga, lgb, lgc]; rfl) (by kernel_rfl) (by kernel_rfl) (by decide) (fun _ _ _ h => h) (Or.inl ⟨by rfl, ?hy17⟩) (KEEP.out _ (ext_drew _)) ?rest17
      case hy17 => intro W hSW; (try dsimp only at hSW); obtain ⟨e0, e1⟩ := hSW; go_simp <;> with_reducible rfl
      try simp only [Act.put, lsa, lsb, lsc]
      refine EG_one 17 (by kernel_rfl) (by simp only [lga, lgb, lgc]; rfl) (by decide) ?_
      intro K hK0
      have hK := hid hK0
      clear hK0
      go_simp
      refine (CH.out _ (ext_drew _)).mono ?_
      rintro e _ ⟨rfl, rfl⟩
      go_simp
      refine hK.out _ _ (KEEP.out _ (ext_drew _)) ?_
      clear hK K
      try simp only [Act.put, lsa, lsb, lsc]
      refine EG_end (by kernel_rfl) (by simp only [lga, lgb, lgc]; rfl) ?_
      intro K hK0
      have hK := hid hK0
      clear hK0
      go_simp
      refine hK.out _ _ ?_
      clear hK K
      refine NoPanic.normal ?_
      cases vb with
      | true =>
        have F : V = 2 := by
          rw [← HV.out, if_neg]
          intro e
          have h3 := of_decide_eq_true HVB.out
          have h4 : (data.take (k + 1)).Nodup := e.sublist (List.take_sublist _ _)
          rw [HET.out, List.nodup_append] at h4
          exact h4.2.2 x h3 x (by simp) rfl
        have F := hid F
        go_wp2_with fail
        go_ret
        exact ⟨ret_int F.out.symm, ext_trans X1.out (ext_trans HXX.out (ext_drew _))⟩
      | false =>
        have REL : RcRel data w1 (.int .i64 ((k : Int) + 1)) wr.drew := ⟨k + 1, hkl, by go_num, by
          rw [HET.out, List.nodup_append]
          refine ⟨HND.out, by simp, fun a ha b hb e => ?_⟩
          rw [List.mem_singleton] at hb
          subst hb; subst e
          exact (of_decide_eq_false HVB.out) ha, ext_trans HXX.out (ext_drew _)⟩
        have REL := hid REL
        go_wp2_with fail
        go_roundw
        case rel => exact REL.out
        case measure => simp [intOf]; omega
    · obtain rfl : k = m := by omega
      have F : V = 0 := by
        rw [← HV.out, if_pos]
        rw [← HM.out, List.take_length] at hnd
        exact hnd
      have F := hid F
      have HXX := hid hx
      clear hnd hx B2
      go_wp2_with fail
      go_ret
      exact ⟨ret_int F.out.symm, ext_trans X1.out HXX.out⟩
theorem ref_set {w : World} {s : SetS} {A : Option Addr} {c : Nat} (h : RdG w 1 A s.data.length c (tvs s.data)) (hn : s.nm.length ≤ 2000000) (hd : ∀ d ∈ s.data, d.length ≤ 65535) :
    Calls Try.prog 54 #[.agg #[.string (str s.nm), .int .i64 s.ty, .int .i64 s.cl, .int .i64 s.ttl, .slice A s.data.length c]] w fun e w' => e = .returned (.int .i64 (chkS s)) ∧ Ext w w' := by
  unfold chkS
  by_cases h1 : checkS s.nm = 0
  rotate_left
  · rw [if_neg (fun e => h1 e.1)]; exact ref_bad1 h hn h1
  by_cases h2 : 0 ≤ s.ty ∧ s.ty ≤ 65535
  rotate_left
  · rw [if_neg (fun e => h2 e.2.1)]; exact ref_bad2 h hn h1 h2
  by_cases h3 : 0 ≤ s.cl ∧ s.cl ≤ 65535
  rotate_left
  · rw [if_neg (fun e => h3 e.2.2.1)]; exact ref_bad3 h hn h1 h2 h3
  by_cases h4 : 0 ≤ s.ttl ∧ s.ttl ≤ 2147483647
  rotate_left
  · rw [if_neg (fun e => by have := e.2.2.2.1; omega)]; exact ref_bad4 h hn h1 h2 h3 h4
  by_cases h6 : (s.data.length : Int) < 1
  · rw [if_neg (fun e => by have := e.2.2.2.2.1.1; omega)]; exact ref_bad6 h hn h1 h2 h3 h4 h6
  by_cases h7 : (64 : Int) < (s.data.length : Int)
  · rw [if_neg (fun e => by have := e.2.2.2.2.1.2; omega)]; exact ref_bad7 h hn h1 h2 h3 h4 h6 h7
  have hl := ref_loop h hn h1 h2 h3 h4 h6 h7 hd
  by_cases h8 : s.data.Nodup
  · rw [if_pos ⟨h1, h2, h3, by omega, by omega, h8⟩]
    rw [if_pos h8] at hl
    exact hl
  · rw [if_neg (fun e => h8 e.2.2.2.2.2)]
    rw [if_neg h8] at hl
    exact hl
end Go.Proofs.Ytcddfenhkljpeaa

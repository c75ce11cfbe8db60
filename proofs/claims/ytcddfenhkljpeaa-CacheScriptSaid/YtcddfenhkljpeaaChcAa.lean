import Derived.Test.YtcddfenhkljpeaaChcX
/- Layer 23: sets.Check of any set. (Printed by gen_chcaa.py.) -/
namespace Go.Proofs.Ytcddfenhkljpeaa
open Go.BK Go.BK.CH Go.BK.NM Go.RowKit Go.Maps
set_option linter.unusedVariables false
set_option linter.unusedSimpArgs false
set_option maxHeartbeats 1000000 in
theorem short_no (n : Int) (w : World) (h : ¬ (0 ≤ n ∧ n ≤ 65535)) : Calls Try.prog 58 #[.int .i64 n] w fun e w' => e = .returned (.bool false) ∧ w = w' := by
  by_cases h1 : 0 ≤ n
  · have h2 : ¬ n ≤ 65535 := fun e => h ⟨h1, e⟩
    clear h
    go_enter Try.func58, Try.ntmps58
    go_wp2
    go_ret
    exact ⟨rfl, rfl⟩
  · clear h
    go_enter Try.func58, Try.ntmps58
    go_wp2
    go_ret
    exact ⟨rfl, rfl⟩
set_option maxHeartbeats 4000000 in
set_option maxRecDepth 100000 in
theorem set_bad1 {w : World} {s : SetS} {A : Option Addr} {c : Nat} (h : RdG w 1 A s.data.length c (tvs s.data)) (hn : s.nm.length ≤ 2000000) (h1 : checkS s.nm ≠ 0) :
    Calls Try.prog 34 #[.agg #[.string (str s.nm), .int .i64 s.ty, .int .i64 s.cl, .int .i64 s.ttl, .slice A s.data.length c]] w fun e w' => e = .returned (.int .i64 2) ∧ Ext w w' := by
  obtain ⟨nm, ty, cl, ttl, data⟩ := s
  simp only at *
  have xa := ext_alloc w (.cells #[.string (str nm), .int .i64 ty, .int .i64 cl, .int .i64 ttl, .slice A data.length c] 30)
  have CN := check_in nm (w.alloc (.cells #[.string (str nm), .int .i64 ty, .int .i64 cl, .int .i64 ttl, .slice A data.length c] 30)) hn
  obtain ⟨q, hq⟩ : ∃ q, checkS nm = q := ⟨_, rfl⟩
  rw [hq] at CN h1
  have CN := hid CN
  have b1 : (q == 0) = false := by simpa using h1
  have b2 : (q != 0) = true := by simpa using h1
  clear h1
  have ba := Blk.new w 30 #[.string (str nm), .int .i64 ty, .int .i64 cl, .int .i64 ttl, .slice A data.length c]
  have BA := hid ba
  have XA := hid xa
  have hnl := h.n_le
  obtain ⟨m, hm⟩ : ∃ m, data.length = m := ⟨_, rfl⟩
  simp only [hm] at *
  clear h xa ba hm hn hq
  go_enter Try.func34, Try.ntmps34
  go_wp2_with fail
  refine CN.out.mono ?_
  rintro e w1 ⟨rfl, x1⟩
  have B1 := BA.out.ext x1
  have k1 : w1.cell? ⟨w.heap.size, 1, none⟩ = some (.int .i64 ty) := B1.cell 1
  have k2 : w1.cell? ⟨w.heap.size, 2, none⟩ = some (.int .i64 cl) := B1.cell 2
  have k3 : w1.cell? ⟨w.heap.size, 3, none⟩ = some (.int .i64 ttl) := B1.cell 3
  have k4 : w1.cell? ⟨w.heap.size, 4, none⟩ = some (.slice A m c) := B1.cell 4
  have X1 := hid (ext_trans XA.out x1)
  clear x1 B1
  go_wp2_with fail
  go_ret
  exact ⟨rfl, X1.out⟩
set_option maxHeartbeats 4000000 in
set_option maxRecDepth 100000 in
theorem set_bad2 {w : World} {s : SetS} {A : Option Addr} {c : Nat} (h : RdG w 1 A s.data.length c (tvs s.data)) (hn : s.nm.length ≤ 2000000) (h1 : checkS s.nm = 0) (h2 : ¬ (0 ≤ s.ty ∧ s.ty ≤ 65535)) :
    Calls Try.prog 34 #[.agg #[.string (str s.nm), .int .i64 s.ty, .int .i64 s.cl, .int .i64 s.ttl, .slice A s.data.length c]] w fun e w' => e = .returned (.int .i64 2) ∧ Ext w w' := by
  obtain ⟨nm, ty, cl, ttl, data⟩ := s
  simp only at *
  have xa := ext_alloc w (.cells #[.string (str nm), .int .i64 ty, .int .i64 cl, .int .i64 ttl, .slice A data.length c] 30)
  have CN := check_in nm (w.alloc (.cells #[.string (str nm), .int .i64 ty, .int .i64 cl, .int .i64 ttl, .slice A data.length c] 30)) hn
  obtain ⟨q, hq⟩ : ∃ q, checkS nm = q := ⟨_, rfl⟩
  rw [hq] at CN h1
  have CN := hid CN
  have b1 : (q == 0) = true := by simp [h1]
  have b2 : (q != 0) = false := by simp [h1]
  clear h1
  have C1 := hid (fun W => short_no ty W h2)
  clear h2
  have ba := Blk.new w 30 #[.string (str nm), .int .i64 ty, .int .i64 cl, .int .i64 ttl, .slice A data.length c]
  have BA := hid ba
  have XA := hid xa
  have hnl := h.n_le
  obtain ⟨m, hm⟩ : ∃ m, data.length = m := ⟨_, rfl⟩
  simp only [hm] at *
  clear h xa ba hm hn hq
  go_enter Try.func34, Try.ntmps34
  go_wp2_with fail
  refine CN.out.mono ?_
  rintro e w1 ⟨rfl, x1⟩
  have B1 := BA.out.ext x1
  have k1 : w1.cell? ⟨w.heap.size, 1, none⟩ = some (.int .i64 ty) := B1.cell 1
  have k2 : w1.cell? ⟨w.heap.size, 2, none⟩ = some (.int .i64 cl) := B1.cell 2
  have k3 : w1.cell? ⟨w.heap.size, 3, none⟩ = some (.int .i64 ttl) := B1.cell 3
  have k4 : w1.cell? ⟨w.heap.size, 4, none⟩ = some (.slice A m c) := B1.cell 4
  have X1 := hid (ext_trans XA.out x1)
  clear x1 B1
  go_wp2_with fail
  refine (C1.out _).mono ?_
  rintro e _ ⟨rfl, rfl⟩
  go_wp2_with fail
  go_ret
  exact ⟨rfl, X1.out⟩
set_option maxHeartbeats 4000000 in
set_option maxRecDepth 100000 in
theorem set_bad3 {w : World} {s : SetS} {A : Option Addr} {c : Nat} (h : RdG w 1 A s.data.length c (tvs s.data)) (hn : s.nm.length ≤ 2000000) (h1 : checkS s.nm = 0) (h2 : 0 ≤ s.ty ∧ s.ty ≤ 65535) (h3 : ¬ (0 ≤ s.cl ∧ s.cl ≤ 65535)) :
    Calls Try.prog 34 #[.agg #[.string (str s.nm), .int .i64 s.ty, .int .i64 s.cl, .int .i64 s.ttl, .slice A s.data.length c]] w fun e w' => e = .returned (.int .i64 2) ∧ Ext w w' := by
  obtain ⟨nm, ty, cl, ttl, data⟩ := s
  simp only at *
  have xa := ext_alloc w (.cells #[.string (str nm), .int .i64 ty, .int .i64 cl, .int .i64 ttl, .slice A data.length c] 30)
  have CN := check_in nm (w.alloc (.cells #[.string (str nm), .int .i64 ty, .int .i64 cl, .int .i64 ttl, .slice A data.length c] 30)) hn
  obtain ⟨q, hq⟩ : ∃ q, checkS nm = q := ⟨_, rfl⟩
  rw [hq] at CN h1
  have CN := hid CN
  have b1 : (q == 0) = true := by simp [h1]
  have b2 : (q != 0) = false := by simp [h1]
  clear h1
  have C1 := hid (fun W => short_in ty W h2)
  clear h2
  have C2 := hid (fun W => short_no cl W h3)
  clear h3
  have ba := Blk.new w 30 #[.string (str nm), .int .i64 ty, .int .i64 cl, .int .i64 ttl, .slice A data.length c]
  have BA := hid ba
  have XA := hid xa
  have hnl := h.n_le
  obtain ⟨m, hm⟩ : ∃ m, data.length = m := ⟨_, rfl⟩
  simp only [hm] at *
  clear h xa ba hm hn hq
  go_enter Try.func34, Try.ntmps34
  go_wp2_with fail
  refine CN.out.mono ?_
  rintro e w1 ⟨rfl, x1⟩
  have B1 := BA.out.ext x1
  have k1 : w1.cell? ⟨w.heap.size, 1, none⟩ = some (.int .i64 ty) := B1.cell 1
  have k2 : w1.cell? ⟨w.heap.size, 2, none⟩ = some (.int .i64 cl) := B1.cell 2
  have k3 : w1.cell? ⟨w.heap.size, 3, none⟩ = some (.int .i64 ttl) := B1.cell 3
  have k4 : w1.cell? ⟨w.heap.size, 4, none⟩ = some (.slice A m c) := B1.cell 4
  have X1 := hid (ext_trans XA.out x1)
  clear x1 B1
  go_wp2_with fail
  refine (C1.out _).mono ?_
  rintro e _ ⟨rfl, rfl⟩
  go_wp2_with fail
  refine (C2.out _).mono ?_
  rintro e _ ⟨rfl, rfl⟩
  go_wp2_with fail
  go_ret
  exact ⟨rfl, X1.out⟩
set_option maxHeartbeats 4000000 in
set_option maxRecDepth 100000 in
theorem set_bad4 {w : World} {s : SetS} {A : Option Addr} {c : Nat} (h : RdG w 1 A s.data.length c (tvs s.data)) (hn : s.nm.length ≤ 2000000) (h1 : checkS s.nm = 0) (h2 : 0 ≤ s.ty ∧ s.ty ≤ 65535) (h3 : 0 ≤ s.cl ∧ s.cl ≤ 65535) (h4 : s.ttl < 0) :
    Calls Try.prog 34 #[.agg #[.string (str s.nm), .int .i64 s.ty, .int .i64 s.cl, .int .i64 s.ttl, .slice A s.data.length c]] w fun e w' => e = .returned (.int .i64 2) ∧ Ext w w' := by
  obtain ⟨nm, ty, cl, ttl, data⟩ := s
  simp only at *
  have xa := ext_alloc w (.cells #[.string (str nm), .int .i64 ty, .int .i64 cl, .int .i64 ttl, .slice A data.length c] 30)
  have CN := check_in nm (w.alloc (.cells #[.string (str nm), .int .i64 ty, .int .i64 cl, .int .i64 ttl, .slice A data.length c] 30)) hn
  obtain ⟨q, hq⟩ : ∃ q, checkS nm = q := ⟨_, rfl⟩
  rw [hq] at CN h1
  have CN := hid CN
  have b1 : (q == 0) = true := by simp [h1]
  have b2 : (q != 0) = false := by simp [h1]
  clear h1
  have C1 := hid (fun W => short_in ty W h2)
  clear h2
  have C2 := hid (fun W => short_in cl W h3)
  clear h3
  have ba := Blk.new w 30 #[.string (str nm), .int .i64 ty, .int .i64 cl, .int .i64 ttl, .slice A data.length c]
  have BA := hid ba
  have XA := hid xa
  have hnl := h.n_le
  obtain ⟨m, hm⟩ : ∃ m, data.length = m := ⟨_, rfl⟩
  simp only [hm] at *
  clear h xa ba hm hn hq
  go_enter Try.func34, Try.ntmps34
  go_wp2_with fail
  refine CN.out.mono ?_
  rintro e w1 ⟨rfl, x1⟩
  have B1 := BA.out.ext x1
  have k1 : w1.cell? ⟨w.heap.size, 1, none⟩ = some (.int .i64 ty) := B1.cell 1
  have k2 : w1.cell? ⟨w.heap.size, 2, none⟩ = some (.int .i64 cl) := B1.cell 2
  have k3 : w1.cell? ⟨w.heap.size, 3, none⟩ = some (.int .i64 ttl) := B1.cell 3
  have k4 : w1.cell? ⟨w.heap.size, 4, none⟩ = some (.slice A m c) := B1.cell 4
  have X1 := hid (ext_trans XA.out x1)
  clear x1 B1
  go_wp2_with fail
  refine (C1.out _).mono ?_
  rintro e _ ⟨rfl, rfl⟩
  go_wp2_with fail
  refine (C2.out _).mono ?_
  rintro e _ ⟨rfl, rfl⟩
  go_wp2_with fail
  go_ret
  exact ⟨rfl, X1.out⟩
set_option maxHeartbeats 4000000 in
set_option maxRecDepth 100000 in
theorem set_bad5 {w : World} {s : SetS} {A : Option Addr} {c : Nat} (h : RdG w 1 A s.data.length c (tvs s.data)) (hn : s.nm.length ≤ 2000000) (h1 : checkS s.nm = 0) (h2 : 0 ≤ s.ty ∧ s.ty ≤ 65535) (h3 : 0 ≤ s.cl ∧ s.cl ≤ 65535) (h4 : ¬ s.ttl < 0) (h5 : 2147483648 ≤ s.ttl) :
    Calls Try.prog 34 #[.agg #[.string (str s.nm), .int .i64 s.ty, .int .i64 s.cl, .int .i64 s.ttl, .slice A s.data.length c]] w fun e w' => e = .returned (.int .i64 2) ∧ Ext w w' := by
  obtain ⟨nm, ty, cl, ttl, data⟩ := s
  simp only at *
  have xa := ext_alloc w (.cells #[.string (str nm), .int .i64 ty, .int .i64 cl, .int .i64 ttl, .slice A data.length c] 30)
  have CN := check_in nm (w.alloc (.cells #[.string (str nm), .int .i64 ty, .int .i64 cl, .int .i64 ttl, .slice A data.length c] 30)) hn
  obtain ⟨q, hq⟩ : ∃ q, checkS nm = q := ⟨_, rfl⟩
  rw [hq] at CN h1
  have CN := hid CN
  have b1 : (q == 0) = true := by simp [h1]
  have b2 : (q != 0) = false := by simp [h1]
  clear h1
  have C1 := hid (fun W => short_in ty W h2)
  clear h2
  have C2 := hid (fun W => short_in cl W h3)
  clear h3
  have ba := Blk.new w 30 #[.string (str nm), .int .i64 ty, .int .i64 cl, .int .i64 ttl, .slice A data.length c]
  have BA := hid ba
  have XA := hid xa
  have hnl := h.n_le
  obtain ⟨m, hm⟩ : ∃ m, data.length = m := ⟨_, rfl⟩
  simp only [hm] at *
  clear h xa ba hm hn hq
  go_enter Try.func34, Try.ntmps34
  go_wp2_with fail
  refine CN.out.mono ?_
  rintro e w1 ⟨rfl, x1⟩
  have B1 := BA.out.ext x1
  have k1 : w1.cell? ⟨w.heap.size, 1, none⟩ = some (.int .i64 ty) := B1.cell 1
  have k2 : w1.cell? ⟨w.heap.size, 2, none⟩ = some (.int .i64 cl) := B1.cell 2
  have k3 : w1.cell? ⟨w.heap.size, 3, none⟩ = some (.int .i64 ttl) := B1.cell 3
  have k4 : w1.cell? ⟨w.heap.size, 4, none⟩ = some (.slice A m c) := B1.cell 4
  have X1 := hid (ext_trans XA.out x1)
  clear x1 B1
  go_wp2_with fail
  refine (C1.out _).mono ?_
  rintro e _ ⟨rfl, rfl⟩
  go_wp2_with fail
  refine (C2.out _).mono ?_
  rintro e _ ⟨rfl, rfl⟩
  go_wp2_with fail
  go_ret
  exact ⟨rfl, X1.out⟩
set_option maxHeartbeats 4000000 in
set_option maxRecDepth 100000 in
theorem set_bad6 {w : World} {s : SetS} {A : Option Addr} {c : Nat} (h : RdG w 1 A s.data.length c (tvs s.data)) (hn : s.nm.length ≤ 2000000) (h1 : checkS s.nm = 0) (h2 : 0 ≤ s.ty ∧ s.ty ≤ 65535) (h3 : 0 ≤ s.cl ∧ s.cl ≤ 65535) (h4 : ¬ s.ttl < 0) (h5 : ¬ 2147483648 ≤ s.ttl) (h6 : (s.data.length : Int) < 1) :
    Calls Try.prog 34 #[.agg #[.string (str s.nm), .int .i64 s.ty, .int .i64 s.cl, .int .i64 s.ttl, .slice A s.data.length c]] w fun e w' => e = .returned (.int .i64 2) ∧ Ext w w' := by
  obtain ⟨nm, ty, cl, ttl, data⟩ := s
  simp only at *
  have xa := ext_alloc w (.cells #[.string (str nm), .int .i64 ty, .int .i64 cl, .int .i64 ttl, .slice A data.length c] 30)
  have CN := check_in nm (w.alloc (.cells #[.string (str nm), .int .i64 ty, .int .i64 cl, .int .i64 ttl, .slice A data.length c] 30)) hn
  obtain ⟨q, hq⟩ : ∃ q, checkS nm = q := ⟨_, rfl⟩
  rw [hq] at CN h1
  have CN := hid CN
  have b1 : (q == 0) = true := by simp [h1]
  have b2 : (q != 0) = false := by simp [h1]
  clear h1
  have C1 := hid (fun W => short_in ty W h2)
  clear h2
  have C2 := hid (fun W => short_in cl W h3)
  clear h3
  have ba := Blk.new w 30 #[.string (str nm), .int .i64 ty, .int .i64 cl, .int .i64 ttl, .slice A data.length c]
  have BA := hid ba
  have XA := hid xa
  have hnl := h.n_le
  obtain ⟨m, hm⟩ : ∃ m, data.length = m := ⟨_, rfl⟩
  simp only [hm] at *
  clear h xa ba hm hn hq
  go_enter Try.func34, Try.ntmps34
  go_wp2_with fail
  refine CN.out.mono ?_
  rintro e w1 ⟨rfl, x1⟩
  have B1 := BA.out.ext x1
  have k1 : w1.cell? ⟨w.heap.size, 1, none⟩ = some (.int .i64 ty) := B1.cell 1
  have k2 : w1.cell? ⟨w.heap.size, 2, none⟩ = some (.int .i64 cl) := B1.cell 2
  have k3 : w1.cell? ⟨w.heap.size, 3, none⟩ = some (.int .i64 ttl) := B1.cell 3
  have k4 : w1.cell? ⟨w.heap.size, 4, none⟩ = some (.slice A m c) := B1.cell 4
  have X1 := hid (ext_trans XA.out x1)
  clear x1 B1
  go_wp2_with fail
  refine (C1.out _).mono ?_
  rintro e _ ⟨rfl, rfl⟩
  go_wp2_with fail
  refine (C2.out _).mono ?_
  rintro e _ ⟨rfl, rfl⟩
  go_wp2_with fail
  go_ret
  exact ⟨rfl, X1.out⟩
set_option maxHeartbeats 4000000 in
set_option maxRecDepth 100000 in
theorem set_bad7 {w : World} {s : SetS} {A : Option Addr} {c : Nat} (h : RdG w 1 A s.data.length c (tvs s.data)) (hn : s.nm.length ≤ 2000000) (h1 : checkS s.nm = 0) (h2 : 0 ≤ s.ty ∧ s.ty ≤ 65535) (h3 : 0 ≤ s.cl ∧ s.cl ≤ 65535) (h4 : ¬ s.ttl < 0) (h5 : ¬ 2147483648 ≤ s.ttl) (h6 : ¬ (s.data.length : Int) < 1) (h7 : (64 : Int) < (s.data.length : Int)) :
    Calls Try.prog 34 #[.agg #[.string (str s.nm), .int .i64 s.ty, .int .i64 s.cl, .int .i64 s.ttl, .slice A s.data.length c]] w fun e w' => e = .returned (.int .i64 2) ∧ Ext w w' := by
  obtain ⟨nm, ty, cl, ttl, data⟩ := s
  simp only at *
  have xa := ext_alloc w (.cells #[.string (str nm), .int .i64 ty, .int .i64 cl, .int .i64 ttl, .slice A data.length c] 30)
  have CN := check_in nm (w.alloc (.cells #[.string (str nm), .int .i64 ty, .int .i64 cl, .int .i64 ttl, .slice A data.length c] 30)) hn
  obtain ⟨q, hq⟩ : ∃ q, checkS nm = q := ⟨_, rfl⟩
  rw [hq] at CN h1
  have CN := hid CN
  have b1 : (q == 0) = true := by simp [h1]
  have b2 : (q != 0) = false := by simp [h1]
  clear h1
  have C1 := hid (fun W => short_in ty W h2)
  clear h2
  have C2 := hid (fun W => short_in cl W h3)
  clear h3
  have ba := Blk.new w 30 #[.string (str nm), .int .i64 ty, .int .i64 cl, .int .i64 ttl, .slice A data.length c]
  have BA := hid ba
  have XA := hid xa
  have hnl := h.n_le
  obtain ⟨m, hm⟩ : ∃ m, data.length = m := ⟨_, rfl⟩
  simp only [hm] at *
  clear h xa ba hm hn hq
  go_enter Try.func34, Try.ntmps34
  go_wp2_with fail
  refine CN.out.mono ?_
  rintro e w1 ⟨rfl, x1⟩
  have B1 := BA.out.ext x1
  have k1 : w1.cell? ⟨w.heap.size, 1, none⟩ = some (.int .i64 ty) := B1.cell 1
  have k2 : w1.cell? ⟨w.heap.size, 2, none⟩ = some (.int .i64 cl) := B1.cell 2
  have k3 : w1.cell? ⟨w.heap.size, 3, none⟩ = some (.int .i64 ttl) := B1.cell 3
  have k4 : w1.cell? ⟨w.heap.size, 4, none⟩ = some (.slice A m c) := B1.cell 4
  have X1 := hid (ext_trans XA.out x1)
  clear x1 B1
  go_wp2_with fail
  refine (C1.out _).mono ?_
  rintro e _ ⟨rfl, rfl⟩
  go_wp2_with fail
  refine (C2.out _).mono ?_
  rintro e _ ⟨rfl, rfl⟩
  go_wp2_with fail
  go_ret
  exact ⟨rfl, X1.out⟩
def SkNd (data : List (List UInt8)) (iv : Value) : Prop := ∃ j : Nat, iv = .int .i64 j ∧ (data.take j).Nodup
set_option maxHeartbeats 4000000 in
set_option maxRecDepth 100000 in
theorem set_bad8 {w : World} {s : SetS} {A : Option Addr} {c : Nat} (h : RdG w 1 A s.data.length c (tvs s.data)) (hs : checkS s.nm = 0 ∧ s.nm.length ≤ 2000000 ∧ (0 ≤ s.ty ∧ s.ty ≤ 65535) ∧ (0 ≤ s.cl ∧ s.cl ≤ 65535) ∧ (0 ≤ s.ttl ∧ s.ttl < 2147483648) ∧ (1 ≤ s.data.length ∧ s.data.length ≤ 64) ∧ ¬ s.data.Nodup ∧ ∀ d ∈ s.data, d.length ≤ 65535) :
    Calls Try.prog 34 #[.agg #[.string (str s.nm), .int .i64 s.ty, .int .i64 s.cl, .int .i64 s.ttl, .slice A s.data.length c]] w fun e w' => e = .returned (.int .i64 2) ∧ Ext w w' := by
  obtain ⟨nm, ty, cl, ttl, data⟩ := s
  obtain ⟨g1, g2, ⟨g3, g4⟩, ⟨g5, g6⟩, ⟨g7, g8⟩, ⟨g9, g10⟩, g11, g12⟩ := hs
  simp only at g1 g2 g3 g4 g5 g6 g7 g8 g9 g10 g11 g12 h ⊢
  have xa := ext_alloc w (.cells #[.string (str nm), .int .i64 ty, .int .i64 cl, .int .i64 ttl, .slice A data.length c] 30)
  have CN := check_in nm (w.alloc (.cells #[.string (str nm), .int .i64 ty, .int .i64 cl, .int .i64 ttl, .slice A data.length c] 30)) g2
  rw [g1] at CN
  have CN := hid CN
  have C1 := hid (fun W => short_in ty W ⟨g3, g4⟩)
  have C2 := hid (fun W => short_in cl W ⟨g5, g6⟩)
  have ba := Blk.new w 30 #[.string (str nm), .int .i64 ty, .int .i64 cl, .int .i64 ttl, .slice A data.length c]
  have BA := hid ba
  have XA := hid xa
  have H := hid (h.ext xa)
  have G11 := hid g11
  have G12 := hid g12
  obtain ⟨m, hm⟩ : ∃ m, data.length = m := ⟨_, rfl⟩
  have q1 : ¬ ttl < 0 := by omega
  have q2 : ¬ 2147483648 ≤ ttl := by omega
  rw [hm] at g9 g10 H BA XA CN ⊢
  have q3 : ¬ (m : Int) < 1 := by omega
  have q4 : ¬ (64 : Int) < (m : Int) := by omega
  have hmm := @run_makeMap Try.prog
  have HM := hid hm
  clear h xa ba hm g11 g12
  go_enter Try.func34, Try.ntmps34
  go_wp2_with fail
  refine CN.out.mono ?_
  rintro e w1 ⟨rfl, x1⟩
  have B1 := BA.out.ext x1
  have k1 : w1.cell? ⟨w.heap.size, 1, none⟩ = some (.int .i64 ty) := B1.cell 1
  have k2 : w1.cell? ⟨w.heap.size, 2, none⟩ = some (.int .i64 cl) := B1.cell 2
  have k3 : w1.cell? ⟨w.heap.size, 3, none⟩ = some (.int .i64 ttl) := B1.cell 3
  have k4 : w1.cell? ⟨w.heap.size, 4, none⟩ = some (.slice A m c) := B1.cell 4
  have X1 := hid (ext_trans XA.out x1)
  have H1 := hid (H.out.ext x1)
  have B1 := hid B1
  clear x1
  go_wp2_with fail
  refine (C1.out _).mono ?_
  rintro e _ ⟨rfl, rfl⟩
  go_wp2_with fail
  refine (C2.out _).mono ?_
  rintro e _ ⟨rfl, rfl⟩
  have xm := ext_alloc w1 (.map #[] 0)
  have b2 := B1.out.ext xm
  have m4 : (w1.alloc (.map #[] 0)).cell? ⟨w.heap.size, 4, none⟩ = some (.slice A m c) := b2.cell 4
  have START : Hid (SkRel w1 w1.heap.size m data (.int .i64 0) (w1.alloc (.map #[] 0))) := hid ⟨0, Nat.zero_le _, rfl, (MapF.made w1 Try.prog 9).congr (fun x => by simp [tabS]), xm, Nat.le_refl _⟩
  obtain ⟨mb, hmb⟩ : ∃ mb, w1.heap.size = mb := ⟨_, rfl⟩
  rw [hmb] at START
  have XM := hid xm
  clear xm b2
  go_wp2_with fail
  go_loopw [53] (fun iv wr => SkNd data iv ∧ SkRel w1 mb m data iv wr) (fun iv _ => m - (intOf iv).toNat)
  case atStart => exact ⟨⟨0, rfl, by simp⟩, START.out⟩
  case round =>
    obtain ⟨⟨j0, hj0, hnd⟩, j, hj, rfl, hmf, hx, hmb9⟩ := hrel
    obtain rfl : j0 = j := by injection hj0 with _ h; omega
    clear hj0
    obtain ⟨j, hj9⟩ : ∃ j, j = j0 := ⟨_, rfl⟩
    subst hj9
    by_cases hlt : j < m
    · have i1 : (j : Int) < (m : Int) := by omega
      have hlt1 : j < data.length := by rw [HM.out]; exact hlt
      have hr := H1.out.ext hx
      have hcell0 := tvs_at (L := data) (k := j) (by rw [HM.out]; exact hr) hlt1
      obtain ⟨b, o, hA, hb, hcell⟩ := hcell0
      rw [getD_el' hlt1] at hcell
      obtain ⟨d, hd⟩ : ∃ d, data[j] = d := ⟨_, rfl⟩
      have hdl : d.length ≤ 65535 := by rw [← hd]; exact G12.out _ (List.getElem_mem hlt1)
      rw [hd] at hcell
      by_cases hin : d ∈ data.take j
      · have hyes : tabS (data.take j) (.string d) = some (.agg #[]) := by
          unfold tabS
          rw [if_pos ⟨d, hin, rfl⟩]
        have hlk := hmf.look (t := 111) keyed_str Try.underlying111 (zero_unit wr) (key_str hdl) true
        rw [hyes] at hlk
        simp only [Option.getD_some, Option.isSome_some, if_true] at hlk
        have HX := hid hx
        subst hA
        clear hmf hx hmb9 hr hd hdl hin hyes hnd
        go_wp2_with fail
        go_ret
        exact ⟨rfl, ext_trans X1.out (ext_trans HX.out (ext_alloc _ _))⟩
      have hnd2 : (data.take (j + 1)).Nodup := by
        rw [List.take_succ_eq_append_getElem hlt1, hd, List.nodup_append]
        refine ⟨hnd, by simp, fun x hx y hy e => ?_⟩
        rw [List.mem_singleton] at hy
        subst hy; subst e
        exact hin hx
      have hno : tabS (data.take j) (.string d) = none := by
        unfold tabS
        rw [if_neg]
        rintro ⟨e, he, h2⟩
        injection h2 with h2
        subst h2
        exact hin he
      have HND := hid hnd2
      clear hnd2 hin hnd
      have hlk := hmf.look (t := 111) keyed_str Try.underlying111 (zero_unit wr) (key_str hdl) true
      rw [hno] at hlk
      simp only [Option.getD_none, Option.isSome_none, if_true] at hlk
      have xu := ext_alloc wr (.cells #[] 112)
      obtain ⟨w6, hrun, m6, t6⟩ := (hmf.ext xu).store (t := 111) keyed_str Try.underlying111 (by unfold maxLen; omega) (key_str hdl) (.agg #[])
      rw [hno] at m6
      simp only [Option.isSome_none] at m6
      have X6 : Hid (Ext w1 w6) := hid (below_of_grown (ext_trans hx xu) (by have h1 := hx.size; simp; omega) t6.grown (fun g hg => by simp at hg; omega))
      have HDD := hid hd
      have M6 := hid m6
      have HMB := hid hmb9
      have hsz : ¬ (65535 : Int) < ((str d).size : Int) := by rw [str_size]; omega
      subst hA
      clear hmf hx hmb9 hr hd hdl hno m6 t6 xu
      go_wp2_with fail
      go_roundw
      case rel =>
        refine ⟨⟨j + 1, by go_num, HND.out⟩, j + 1, by omega, by go_num, ?_, X6.out, HMB.out⟩
        have h1 := M6.out
        rw [if_neg (by simp)] at h1
        refine h1.congr (fun x => ?_)
        rw [List.take_succ_eq_append_getElem hlt1, HDD.out]
        unfold putF tabS
        by_cases hx : x = .string d
        · rw [if_pos hx, if_pos ⟨d, by simp, hx⟩]
        · rw [if_neg hx]
          congr 1
          simp only [List.mem_append, List.mem_singleton, eq_iff_iff]
          constructor
          · rintro ⟨e, he | he, h2⟩
            · exact ⟨e, he, h2⟩
            · subst he; exact absurd h2 hx
          · rintro ⟨e, he, h2⟩
            exact ⟨e, .inl he, h2⟩
      case measure => simp [intOf]; omega
    · obtain rfl : j = m := by omega
      exact absurd (by rw [← HM.out, List.take_length] at hnd; exact hnd) G11.out
def chkS (s : SetS) : Int := if checkS s.nm = 0 ∧ (0 ≤ s.ty ∧ s.ty ≤ 65535) ∧ (0 ≤ s.cl ∧ s.cl ≤ 65535) ∧ (0 ≤ s.ttl ∧ s.ttl < 2147483648) ∧ (1 ≤ s.data.length ∧ s.data.length ≤ 64) ∧ s.data.Nodup then 0 else 2
theorem set_any {w : World} {s : SetS} {A : Option Addr} {c : Nat} (h : RdG w 1 A s.data.length c (tvs s.data)) (hn : s.nm.length ≤ 2000000) (hd : ∀ d ∈ s.data, d.length ≤ 65535) :
    Calls Try.prog 34 #[.agg #[.string (str s.nm), .int .i64 s.ty, .int .i64 s.cl, .int .i64 s.ttl, .slice A s.data.length c]] w fun e w' => e = .returned (.int .i64 (chkS s)) ∧ Ext w w' := by
  unfold chkS
  by_cases h1 : checkS s.nm = 0
  rotate_left
  · rw [if_neg (fun e => h1 e.1)]; exact set_bad1 h hn h1
  by_cases h2 : 0 ≤ s.ty ∧ s.ty ≤ 65535
  rotate_left
  · rw [if_neg (fun e => h2 e.2.1)]; exact set_bad2 h hn h1 h2
  by_cases h3 : 0 ≤ s.cl ∧ s.cl ≤ 65535
  rotate_left
  · rw [if_neg (fun e => h3 e.2.2.1)]; exact set_bad3 h hn h1 h2 h3
  by_cases h4 : s.ttl < 0
  · rw [if_neg (fun e => by have := e.2.2.2.1.1; omega)]; exact set_bad4 h hn h1 h2 h3 h4
  by_cases h5 : 2147483648 ≤ s.ttl
  · rw [if_neg (fun e => by have := e.2.2.2.1.2; omega)]; exact set_bad5 h hn h1 h2 h3 h4 h5
  by_cases h6 : (s.data.length : Int) < 1
  · rw [if_neg (fun e => by have := e.2.2.2.2.1.1; omega)]; exact set_bad6 h hn h1 h2 h3 h4 h5 h6
  by_cases h7 : (64 : Int) < (s.data.length : Int)
  · rw [if_neg (fun e => by have := e.2.2.2.2.1.2; omega)]; exact set_bad7 h hn h1 h2 h3 h4 h5 h6 h7
  by_cases h8 : s.data.Nodup
  · rw [if_pos ⟨h1, h2, h3, by omega, by omega, h8⟩]
    exact set_check h ⟨h1, hn, h2, h3, by omega, by omega, h8, hd⟩
  · rw [if_neg (fun e => h8 e.2.2.2.2.2)]
    exact set_bad8 h ⟨h1, hn, h2, h3, by omega, by omega, h8, hd⟩
theorem chk_ok {s : SetS} (h : chkS s = 0) (hn : s.nm.length ≤ 2000000) (hd : ∀ d ∈ s.data, d.length ≤ 65535) : SetOk s := by
  unfold chkS at h
  split at h
  · rename_i g
    exact ⟨g.1, hn, g.2.1, g.2.2.1, g.2.2.2.1, g.2.2.2.2.1, g.2.2.2.2.2, hd⟩
  · cases h
end Go.Proofs.Ytcddfenhkljpeaa

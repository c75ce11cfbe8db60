/- Layer 11: faulty, awake, and the chapter's examples. -/
import Derived.Test.YtgcdpkjohaplcaaBasD
import Derived.Test.YtgcdpkjohaplcaaKSame
namespace Go.Proofs.Ytgcdpkjohaplcaa
open Go.BK Go.RowKit
set_option linter.unusedVariables false
theorem decode_to {s : ByteArray} {l : List UInt8} {O : List UInt8} {f a : Int} (hs : s = str l) (h : decR l = (O, f, a)) (w : World) (hl : l.length ≤ 10000000) :
    Calls Try.prog 8 #[.string s] w fun e w' => ∃ A c, e = .returned (.tuple #[.slice A O.length c, .agg #[.int .i64 f, .int .i64 a]]) ∧ Own w' w.heap.size 5 A c O ∧ Ext w w' := by
  have := decode_any l w hl
  rw [h] at this
  rw [hs]
  exact this
theorem encode_to {A : Option Addr} {c n : Nat} {l : List UInt8} {t : ByteArray} {w : World} (h : Rd w A c l) (hn : l.length = n) (ht : str ((BM.encD l).map BM.letN) = t) (hl : l.length ≤ 1000000) :
    Calls Try.prog 12 #[.slice A n c] w fun e w' => e = .returned (.string t) ∧ Ext w w' := by
  subst hn; subst ht
  exact encode_any h hl
set_option maxHeartbeats 1000000 in
theorem faulty_yes {s : ByteArray} {l : List UInt8} {a : Int} (hs : s = str l) (h : decR l = ([], 4, a)) (w : World) (hl : l.length ≤ 10000000) :
    Calls Try.prog 20 #[.string s, .int .i64 a] w fun e w' => e = .returned (.bool true) ∧ Ext w w' := by
  have C := hid (fun W => decode_to hs h W hl)
  clear hs h hl
  go_enter Try.func20, Try.ntmps20
  go_wp2_with fail
  refine (C.out _).mono ?_
  rintro e w1 ⟨A, c, rfl, _, x1⟩
  go_wp2_with fail
  go_ret
  have hz := x1.size
  exact ⟨rfl, by go_grown⟩
/-- Encode of bytes that are laid anew. -/
theorem encode_lit (cs : List UInt8) (arr : Array Value) (t : ByteArray) (n : Nat) (ha : arr = (cs.map u8v).toArray) (hn : cs.length = n) (ht : str ((BM.encD cs).map BM.letN) = t) (hl : cs.length ≤ 1000000) (W : World) (g : Nat) (hg : g = W.heap.size) :
    Calls Try.prog 12 #[.slice (some ⟨g, 0, none⟩) n n] (W.alloc (.cells arr 5)) fun e w' => e = .returned (.string t) ∧ Ext W w' := by
  have ho := Own.lit_at W g cs 5 arr hg ha (by unfold maxLen; omega)
  rw [hn] at ho
  refine (encode_to ho.rd hn ht hl).mono ?_
  rintro e w' ⟨rfl, x⟩
  exact ⟨rfl, ext_trans (ext_alloc _ _) x⟩
set_option maxHeartbeats 1000000 in
set_option maxRecDepth 100000 in
theorem awake_yes (w : World) : Calls Try.prog 17 #[] w fun e w' => e = .returned (.bool true) ∧ Ext w w' := by
  have D1 := hid (fun W => decode_to (s := ⟨#[65, 65]⟩) (l := [65, 65]) (O := [0]) (f := 0) (a := 0) rfl (by decide) W (by decide))
  have F1 := hid (fun W => faulty_yes (s := ⟨#[65, 66]⟩) (l := [65, 66]) (a := 1) rfl (by decide) W (by decide))
  have E1 := hid (encode_lit [255, 255, 255] #[.int .u8 255, .int .u8 255, .int .u8 255] ⟨#[95, 95, 95, 95]⟩ 3 rfl rfl (by decide) (by decide))
  go_enter Try.func17, Try.ntmps17
  go_wp2_with fail
  refine (D1.out _).mono ?_
  rintro e w1 ⟨A, c, rfl, o1, x1⟩
  have K1 := Blk.new w1 26 #[.int .i64 0, .int .i64 0]
  have o1 := hid (o1.ext (ext_alloc w1 (.cells #[.int .i64 0, .int .i64 0] 26)))
  have X1 := hid (ext_trans x1 (ext_alloc w1 (.cells #[.int .i64 0, .int .i64 0] 26)))
  clear x1
  go_wp2_with fail
  refine (E1.out _ _ (by simp)).mono ?_
  rintro e w2 ⟨rfl, x2⟩
  obtain ⟨q1, _, _⟩ := (K1.ext x2).two
  have o2 := hid ((o1.out.ext x2).ext (ext_alloc w2 (.cells #[.int .u8 0] 5)))
  have X2 := hid (ext_trans X1.out x2)
  clear K1 x2
  go_wp2_with fail
  refine (same_yes (a := [0]) o2.out.rd (Own.lit_at w2 _ [0] 5 _ rfl rfl (by simp [maxLen])).rd rfl).mono ?_
  rintro e w3 ⟨rfl, rfl⟩
  go_wp2_with fail
  refine (F1.out _).mono ?_
  rintro e w4 ⟨rfl, x4⟩
  go_wp2_with fail
  go_ret
  exact ⟨rfl, ext_trans (ext_trans X2.out (ext_alloc _ _)) x4⟩
set_option maxHeartbeats 2000000 in
set_option maxRecDepth 100000 in
theorem known_yes (w : World) : Calls Try.prog 6 #[] w fun e w' => e = .returned (.bool true) ∧ Below w.heap.size w w' := by
  have E1 := hid (fun (W : World) => encode_to (A := none) (c := 0) (l := []) (t := ⟨#[]⟩) (n := 0) (RdG.none_ W 1) rfl (by decide) (by decide))
  have E2 := hid (encode_lit [0] #[.int .u8 0] ⟨#[65, 65]⟩ 1 rfl rfl (by decide) (by decide))
  have E3 := hid (encode_lit [251, 240] #[.int .u8 251, .int .u8 240] ⟨#[45, 95, 65]⟩ 2 rfl rfl (by decide) (by decide))
  have F1 := hid (fun W => faulty_yes (s := ⟨#[65]⟩) (l := [65]) (a := 1) rfl (by decide) W (by decide))
  have F2 := hid (fun W => faulty_yes (s := ⟨#[65, 61]⟩) (l := [65, 61]) (a := 1) rfl (by decide) W (by decide))
  have F3 := hid (fun W => faulty_yes (s := ⟨#[65, 65, 65, 65, 65]⟩) (l := [65, 65, 65, 65, 65]) (a := 5) rfl (by decide) W (by decide))
  have S0 := hid (fun W => size_any 0 W (by decide))
  have S1 := hid (fun W => size_any 1 W (by decide))
  have S2 := hid (fun W => size_any 2 W (by decide))
  have S4 := hid (fun W => size_any 4 W (by decide))
  have S5 := hid (fun W => size_any (-3) W (by decide))
  go_enter Try.func6, Try.ntmps6
  go_wp2_with fail
  refine (E1.out _).mono ?_
  rintro e w1 ⟨rfl, x1⟩
  go_wp2_with fail
  refine (E2.out _ _ (by simp)).mono ?_
  rintro e w2 ⟨rfl, x2⟩
  have X := hid (ext_trans x1 x2)
  clear x1 x2
  go_wp2_with fail
  refine (E3.out _ _ (by simp)).mono ?_
  rintro e w3 ⟨rfl, x2⟩
  have X := hid (ext_trans X.out x2)
  clear x2
  go_wp2_with fail
  refine (F1.out _).mono ?_
  rintro e w4 ⟨rfl, x2⟩
  have X := hid (ext_trans X.out x2)
  clear x2
  go_wp2_with fail
  refine (F2.out _).mono ?_
  rintro e w5 ⟨rfl, x2⟩
  have X := hid (ext_trans X.out x2)
  clear x2
  go_wp2_with fail
  refine (F3.out _).mono ?_
  rintro e w6 ⟨rfl, x2⟩
  have X := hid (ext_trans X.out x2)
  clear x2
  go_wp2_with fail
  refine (S0.out _).mono ?_
  rintro e _ ⟨rfl, rfl⟩
  go_wp2_with fail
  refine (S1.out _).mono ?_
  rintro e _ ⟨rfl, rfl⟩
  go_wp2_with fail
  refine (S2.out _).mono ?_
  rintro e _ ⟨rfl, rfl⟩
  go_wp2_with fail
  refine (S4.out _).mono ?_
  rintro e _ ⟨rfl, rfl⟩
  go_wp2_with fail
  refine (S5.out _).mono ?_
  rintro e _ ⟨rfl, rfl⟩
  go_wp2_with fail
  refine (awake_yes _).mono ?_
  rintro e w7 ⟨rfl, x2⟩
  go_wp2_with fail
  go_ret
  exact ⟨rfl, ext_trans X.out x2⟩
end Go.Proofs.Ytgcdpkjohaplcaa

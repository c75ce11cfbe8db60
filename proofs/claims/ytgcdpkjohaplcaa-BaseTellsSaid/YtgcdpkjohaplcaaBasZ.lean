/- BaseTells: any bytes as text, the bytes of any text, and how many bytes a text of so many letters has, are told as the document says, or just the fault. -/
import Derived.Test.YtgcdpkjohaplcaaBasY
import Derived.Test.YtgcdpkjohaplcaaKOver
import Derived.Test.YtgcdpkjohaplcaaKLent
namespace Go.Proofs.Ytgcdpkjohaplcaa
open Go.BK Go.RowKit
set_option linter.unusedVariables false
set_option maxHeartbeats 8000000 in
set_option maxRecDepth 100000 in
theorem tells_walk {B : Option Addr} {cb : Nat} {b : List UInt8} (s : ByteArray) (n : Int) (w : World) (hb : Rd w B cb b) (hs : s.size ≤ maxLen) (hn : -9223372036854775808 ≤ n ∧ n ≤ 9223372036854775807) :
    Calls Try.prog 3 #[.slice B b.length cb, .string s, .int .i64 n] w fun e w' => e = .returned (.bool true) ∧ Below w.heap.size w w' := by
  have lb := hb.n_le
  unfold maxLen at hs
  by_cases h1 : 5000 < b.length
  · have q1 : decide ((5000 : Int) < (b.length : Int)) = true := by simp; omega
    clear hb
    go_enter Try.func3, Try.ntmps3
    go_wp2_with fail
    go_ret
    exact ⟨rfl, Below.refl _ _⟩
  by_cases h2 : 5000 < s.size
  · have q1 : decide ((5000 : Int) < (b.length : Int)) = false := by simp; omega
    have q2 : decide ((5000 : Int) < (s.size : Int)) = true := by simp; omega
    clear hb
    go_enter Try.func3, Try.ntmps3
    go_wp2_with fail
    go_ret
    exact ⟨rfl, Below.refl _ _⟩
  have q1 : decide ((5000 : Int) < (b.length : Int)) = false := by simp; omega
  have q2 : decide ((5000 : Int) < (s.size : Int)) = false := by simp; omega
  obtain ⟨sl, hsl⟩ : ∃ sl, sl = s.data.toList := ⟨_, rfl⟩
  have hss : s = str sl := by rw [hsl, str_of]
  have hsz : sl.length = s.size := by rw [hss, str_size]
  have CD := hid (fun W => decode_any sl W (by omega))
  have CE := hid (fun W => refdecode_any sl W (by omega))
  rw [← hss] at CD CE
  obtain ⟨⟨O, f, a⟩, hR⟩ : ∃ R, decR sl = R := ⟨_, rfl⟩
  rw [hR] at CD CE
  simp only at CD CE
  obtain ⟨⟨k, ok⟩, hz⟩ : ∃ R, sizeS n = R := ⟨_, rfl⟩
  have CS := hid (fun W => size_any n W hn)
  have CT := hid (fun W => refsize_any n W hn)
  rw [hz] at CS CT
  simp only at CS CT
  obtain ⟨t, ht⟩ : ∃ t, encT b = t := ⟨_, rfl⟩
  have CA := hid (fun W (A : Option Addr) (c : Nat) (h : Rd W A c b) => encode_to h rfl ht (by omega))
  have CB := hid (fun W (A : Option Addr) (c : Nat) (h : Rd W A c b) => refencode_any h (by omega))
  rw [ht] at CB
  have HB := hid hb
  have hOl : O.length ≤ 100000 := by
    rcases decR_cases sl with ⟨O', e1, e2⟩ | ⟨a', e1, _⟩
    · rw [hR] at e1
      injection e1 with e1
      subst e1
      have := congrArg List.length e2
      rw [encL_len] at this
      omega
    · rw [hR] at e1
      injection e1 with e1
      subst e1; simp
  clear hb hss hsz hsl hR hz ht
  go_enter Try.func3, Try.ntmps3
  go_wp2_with fail
  refine (lent_bytes HB.out (by omega)).mono ?_
  rintro e w1 ⟨g, rfl, o1, x1⟩
  have O1 := hid o1
  have X1 := hid x1
  have hgl := (o1.lt g rfl).2
  clear o1 x1
  go_wp2_with fail
  refine (CD.out _).mono ?_
  rintro e w2 ⟨A2, c2, rfl, o2, x2⟩
  have O2 := hid (o2.ext (ext_alloc w2 (.cells #[.int .i64 f, .int .i64 a] 26)))
  have X2 := hid (ext_trans x2 (ext_alloc w2 (.cells #[.int .i64 f, .int .i64 a] 26)))
  have K2 := hid (Blk.new w2 26 #[.int .i64 f, .int .i64 a])
  clear o2 x2
  go_wp2_with fail
  refine (CE.out _).mono ?_
  rintro e w3 ⟨A3, c3, rfl, o3, x3⟩
  have O3 := hid (o3.ext (ext_alloc w3 (.cells #[.int .i64 f, .int .i64 a] 26)))
  have X3 := hid (ext_trans x3 (ext_alloc w3 (.cells #[.int .i64 f, .int .i64 a] 26)))
  have K3 := hid (Blk.new w3 26 #[.int .i64 f, .int .i64 a])
  clear o3 x3
  go_wp2_with fail
  refine (CS.out _).mono ?_
  rintro e _ ⟨rfl, rfl⟩
  go_wp2_with fail
  refine (CT.out _).mono ?_
  rintro e _ ⟨rfl, rfl⟩
  have R1 := hid ((lent_rd O1.out).ext (ext_trans X2.out X3.out))
  have XB := hid (ext_trans X1.out (ext_trans X2.out X3.out))
  go_wp2_with fail
  refine (CA.out _ _ _ R1.out).mono ?_
  rintro e w4 ⟨rfl, x4⟩
  go_wp2_with fail
  refine (CB.out _ _ _ (HB.out.ext (ext_trans XB.out x4))).mono ?_
  rintro e w5 ⟨rfl, x5⟩
  have X5 := hid (ext_trans x4 x5)
  have r2 := hid (O2.out.ext (ext_trans X3.out X5.out))
  have r3 := hid (O3.out.ext X5.out)
  obtain ⟨k0, k1, _⟩ := ((K2.out.ext X3.out).ext X5.out).two
  obtain ⟨m0, m1, _⟩ := (K3.out.ext X5.out).two
  clear x4 x5
  go_wp2_with fail
  refine (same_yes r2.out.rd r3.out.rd rfl).mono ?_
  rintro e _ ⟨rfl, rfl⟩
  go_wp2_with fail
  refine (over_bytes r2.out).mono ?_
  rintro e w6 ⟨rfl, g6, O', hO'l, o6⟩
  have hxs := ext_trans (ext_trans X2.out X3.out) X5.out
  have OA := (O1.out.ext hxs).grown g6 (fun j hj => by
    cases hj
    intro e2
    have := (r2.out.lt g e2.symm).1
    omega)
  have RB := (HB.out.ext (ext_trans XB.out X5.out)).grown g6 (fun h0 e2 => by
    obtain ⟨j, hj, hl⟩ := HB.out.lt h0
    have := (r2.out.lt j (by rw [← e2, hj])).1
    have := X1.out.size
    omega)
  have XX := (ext_trans XB.out X5.out).grown g6 (ext_trans XB.out X5.out).size (fun j hj => by
    have := (r2.out.lt j hj).1
    have := X1.out.size
    omega)
  have OA := hid OA
  have RB := hid RB
  have XX := hid XX
  clear hxs g6 o6 hO'l
  go_wp2_with fail
  refine (kept_bytes OA.out RB.out (by omega)).mono ?_
  rintro e w7 ⟨rfl, x7⟩
  go_wp2_with fail
  refine (awake_yes _).mono ?_
  rintro e w8 ⟨rfl, x8⟩
  go_wp2_with fail
  go_ret
  exact ⟨ret_bool (by simp), ext_trans (ext_trans XX.out x7) x8⟩
end Go.Proofs.Ytgcdpkjohaplcaa

/- WireKnown: the chapter's examples are answered as it says. -/
import Derived.Test.YtfimfmghfjokjaaWirW
import Derived.Test.YtfimfmghfjokjaaPakC
import Derived.Test.YtfimfmghfjokjaaKSame
namespace Go.Proofs.Ytfimfmghfjokjaa
open Go.BK Go.RowKit Go.BK.NM
set_option linter.unusedVariables false

theorem k1 : readS [192, 0] 0 = ([], 0, 150, 0) := by
  unfold readS
  rw [if_neg (by decide)]
  exact rdS_loop (n := 0) (by decide) (by decide) (by decide) (by decide) (by decide)
theorem k2 : readS [1, 97, 192, 0] 0 = ([], 0, 150, 2) := by
  unfold readS
  rw [if_neg (by decide)]
  show rdS _ _ [] 0 0 (-1) = _
  rw [rdS_label (by decide) (by decide) (by decide) (by decide) (by decide)]
  exact rdS_loop (n := 0) (by decide) (by decide) (by decide) (by decide) (by decide)
theorem k3 : readS [64] 0 = ([], 0, 4, 0) := by
  unfold readS
  rw [if_neg (by decide)]
  exact rdS_odd (by decide) (by decide) (by decide)
theorem k4 : readS [2, 97] 0 = ([], 0, 4, 2) := by
  unfold readS
  rw [if_neg (by decide)]
  exact rdS_cut (by decide) (by decide) (by decide) (by decide)
theorem k5 : readS [] 1 = ([], 0, 5, 0) := by
  unfold readS
  rw [if_pos (by decide)]

def t1 : Tails := [([1, 97, 1, 98, 0], 12), ([1, 98, 0], 14)]
def t2 : Tails := t1 ++ [([1, 99, 1, 98, 0], 17)]
def t3 : Tails := t2 ++ [([1, 65, 1, 98, 0], 21)]
theorem lab_ok {L : List Bs} (h : ∀ s ∈ L, 1 ≤ s.length ∧ s.length ≤ 63) (hl : (wire L).length ≤ 255) : labelsS (wire L) = (L, 0) := labels_ok (labS_wire h) hl
theorem pack_ok {T : Tails} {e a : Nat} {L : List Bs} {R : Bs × Tails} (h : ∀ s ∈ L, 1 ≤ s.length ∧ s.length ≤ 63) (hl : (wire L).length ≤ 255) (ha : a ≤ 65535) (he : e ≤ a) (hR : packL T a 0 L = R) : packS T e a (wire L) = (R.1, 0, T ++ R.2, a + R.1.length) := by
  have h1 := lab_ok h hl
  unfold packS checkS
  rw [h1, if_neg (by simp), if_neg (by omega), if_neg (by omega)]
  simp only [Int.toNat_natCast]
  rw [hR]
theorem pack_state {T : Tails} {e a : Nat} {L : List Bs} (h : ∀ s ∈ L, 1 ≤ s.length ∧ s.length ≤ 63) (hl : (wire L).length ≤ 255) (ha : a ≤ 65535) (he : a < e) : packS T e a (wire L) = ([], 9, T, e) := by
  have h1 := lab_ok h hl
  unfold packS checkS
  rw [h1, if_neg (by simp), if_neg (by omega), if_pos (by omega)]
theorem q1 : packS [] 0 12 [1, 97, 1, 98, 0] = ([1, 97, 1, 98, 0], 0, t1, 17) := pack_ok (a := 12) (L := [[97], [98]]) (R := ([1, 97, 1, 98, 0], t1)) (by decide) (by decide) (by decide) (by decide) (by decide +kernel)
theorem q2 : packS t1 17 17 [1, 99, 1, 98, 0] = ([1, 99, 192, 14], 0, t2, 21) := pack_ok (a := 17) (L := [[99], [98]]) (R := ([1, 99, 192, 14], [([1, 99, 1, 98, 0], 17)])) (by decide) (by decide) (by decide) (by decide) (by decide +kernel)
theorem q3 : packS t2 21 21 [1, 65, 1, 98, 0] = ([1, 65, 192, 14], 0, t3, 25) := pack_ok (a := 21) (L := [[65], [98]]) (R := ([1, 65, 192, 14], [([1, 65, 1, 98, 0], 21)])) (by decide) (by decide) (by decide) (by decide) (by decide +kernel)
theorem q4 : packS t3 25 25 [1, 98, 0] = ([192, 14], 0, t3, 27) := (pack_ok (a := 25) (L := [[98]]) (R := ([192, 14], [])) (by decide) (by decide) (by decide) (by decide) (by decide +kernel)).trans (by rw [List.append_nil]; rfl)
theorem q5 : packS t3 27 26 [0] = ([], 9, t3, 27) := pack_state (a := 26) (L := []) (by decide) (by decide) (by decide) (by decide)
theorem q6 : packS t3 27 20 [0] = ([], 9, t3, 27) := pack_state (a := 20) (L := []) (by decide) (by decide) (by decide) (by decide)

theorem name_lit {w : World} {g mb e : Nat} {T : Tails} (at_ : Int) (n : Bs) (s : ByteArray) (hs : s = str n) (h : PackW w g mb T e) (hn : n.length ≤ 100000) (hT : T.length ≤ 1000000) {O : Bs} {E : Int} {T' : Tails} {e' : Nat} (hR : packS T e at_ n = (O, E, T', e')) (m : Nat) (hm : O.length = m) :
    Calls Try.prog 19 #[.pointer (some ⟨g, 0, none⟩), .int .i64 at_, .string s] w fun ee w' => ∃ A c, ee = .returned (.tuple #[.slice A m c, .int .i64 E]) ∧ BK.Own w' w.heap.size 5 A c O ∧ PackW w' g mb T' e' ∧ Shy (fun k => k = g ∨ k = mb) w w' := by
  subst hs
  subst hm
  exact name_in at_ n h hn hT hR
theorem same_lit {A : Option Addr} {c n : Nat} (l : Bs) (arr : Array Value) {W : World} (ha : arr = (l.map u8v).toArray) (hn : l.length = n) (hl : l.length ≤ 1000000) (h : Rd W A c l) (g : Nat) (hg : g = W.heap.size) :
    Calls Try.prog 22 #[.slice A n c, .slice (some ⟨g, 0, none⟩) n n] (W.alloc (.cells arr 5)) fun e w' => e = .returned (.bool true) ∧ W.alloc (.cells arr 5) = w' := by
  have ho := Own.lit_at W g l 5 arr hg ha (by unfold maxLen; omega)
  rw [hn] at ho
  exact same_yes (h.ext (ext_alloc _ _)) ho.rd hn
theorem below_ext {b : Nat} {w w1 w2 : World} (B : Below b w w1) (hb : b ≤ w1.heap.size) (e : Ext w1 w2) : Below b w w2 := B.trans (e.mono hb)
theorem keep_own {W W' : World} {g mb b c : Nat} {e : TypeId} {A : Option Addr} {l : Bs} (h : BK.Own W b e A c l) (hs : Shy (fun k => k = g ∨ k = mb) W W') (h1 : g < b) (h2 : mb < b) : BK.Own W' b e A c l :=
  hs.ownG h (fun k hk => by have := (h.lt k hk).1; omega)

/-- A text that stands as bytes is marked; its cells are as they were. -/
theorem mark_lit (W : World) (cs : Array Value) (n : Nat) : ∃ W', (convert 22 22 (.slice (some ⟨W.heap.size, 0, none⟩) n n)).run Try.prog (W.alloc (.cells cs 5)) = .ok (.slice (some ⟨W.heap.size, 0, none⟩) n n) W' ∧ Ext W W' ∧ (∀ i, W'.cell? ⟨W.heap.size, i, none⟩ = cs[i]?) ∧ W'.heap.size = W.heap.size + 1 := by
  have hb : (W.alloc (.cells cs 5)).heap[W.heap.size]? = some (.cells cs 5 (0, 0)) := heap_alloc_new W _
  have hsh : (W.alloc (.cells cs 5)).shape? W.heap.size = some (5, cs.size) := by unfold World.shape?; rw [hb]
  refine ⟨(W.alloc (.cells cs 5)).freeze ⟨W.heap.size, cs.size, none⟩ 1, ?_, ⟨rfl, rfl, rfl, by simp [World.freeze], fun k hk => ?_⟩, fun i => ?_, by simp [World.freeze]⟩
  · simp [convert, run_underlying Try.underlying22, run_underlying Try.underlying5, markStringish, hsh]
  · have hne : W.heap.size ≠ k := by omega
    simp only [World.freeze]
    rw [if_neg (by decide)]
    show ((W.alloc (.cells cs 5)).heap.modify W.heap.size _)[k]? = _
    rw [Array.getElem?_modify, if_neg hne]
    exact Below.heap_alloc W _ k hk
  · have hm : ((W.alloc (.cells cs 5)).freeze ⟨W.heap.size, cs.size, none⟩ 1).heap[W.heap.size]? = some (.cells cs 5 (cs.size, cs.size + 1)) := by
      simp only [World.freeze]
      rw [if_neg (by decide)]
      show ((W.alloc (.cells cs 5)).heap.modify W.heap.size _)[W.heap.size]? = _
      rw [Array.getElem?_modify, if_pos rfl, hb]
      rfl
    unfold World.cell?
    simp only
    rw [hm]
    rfl
theorem same_mark {A : Option Addr} {c n : Nat} (l : Bs) (arr : Array Value) {W W' : World} (ha : arr = (l.map u8v).toArray) (hn : l.length = n) (hl : l.length ≤ 1000000) (h : Rd W A c l) (g : Nat) (hg : g = W.heap.size) (hx : Ext W W') (hc : ∀ i, W'.cell? ⟨W.heap.size, i, none⟩ = arr[i]?) (hz : W'.heap.size = W.heap.size + 1) :
    Calls Try.prog 22 #[.slice A n c, .slice (some ⟨g, 0, none⟩) n n] W' fun e w' => e = .returned (.bool true) ∧ W' = w' := by
  subst hg
  refine same_yes (h.ext hx) ⟨by simp [hn], by omega, by unfold maxLen; omega, fun _ => ⟨_, 0, rfl, by omega, fun j u hj => ?_⟩⟩ hn
  rw [Nat.zero_add, hc, ha]
  simpa using hj

set_option maxHeartbeats 8000000 in
set_option maxRecDepth 100000 in
theorem known_walk (w : World) : Calls Try.prog 8 #[] w fun e w' => e = .returned (.bool true) ∧ Below w.heap.size w w' := by
  go_enter Try.func8, Try.ntmps8
  go_wp2_with fail
  refine (read_lit [192, 0] #[.int .u8 192, .int .u8 0] 2 0 rfl rfl k1 (by decide) (by decide) _ _ (by simp)).mono ?_
  rintro e w1 ⟨rfl, x1⟩
  have X1 := hid x1
  have B1 := hid (Blk.new w1 26 #[.int .i64 150, .int .i64 0])
  clear x1
  go_wp2_with fail
  refine (read_lit [1, 97, 192, 0] #[.int .u8 1, .int .u8 97, .int .u8 192, .int .u8 0] 4 0 rfl rfl k2 (by decide) (by decide) _ _ (by simp)).mono ?_
  rintro e w2 ⟨rfl, x2⟩
  have X2 := hid (ext_trans (ext_trans X1.out (ext_alloc _ _)) x2)
  have B1 := hid ((B1.out.ext x2).alloc (.cells #[.int .i64 150, .int .i64 2] 26))
  have B2 := hid (Blk.new w2 26 #[.int .i64 150, .int .i64 2])
  clear x2
  go_wp2_with fail
  refine (read_lit [64] #[.int .u8 64] 1 0 rfl rfl k3 (by decide) (by decide) _ _ (by simp)).mono ?_
  rintro e w3 ⟨rfl, x3⟩
  have X3 := hid (ext_trans (ext_trans X2.out (ext_alloc _ _)) x3)
  have B1 := hid ((B1.out.ext x3).alloc (.cells #[.int .i64 4, .int .i64 0] 26))
  have B2 := hid ((B2.out.ext x3).alloc (.cells #[.int .i64 4, .int .i64 0] 26))
  have B3 := hid (Blk.new w3 26 #[.int .i64 4, .int .i64 0])
  clear x3
  go_wp2_with fail
  refine (read_lit [2, 97] #[.int .u8 2, .int .u8 97] 2 0 rfl rfl k4 (by decide) (by decide) _ _ (by simp)).mono ?_
  rintro e w4 ⟨rfl, x4⟩
  have X4 := hid (ext_trans (ext_trans X3.out (ext_alloc _ _)) x4)
  have B1 := hid ((B1.out.ext x4).alloc (.cells #[.int .i64 4, .int .i64 2] 26))
  have B2 := hid ((B2.out.ext x4).alloc (.cells #[.int .i64 4, .int .i64 2] 26))
  have B3 := hid ((B3.out.ext x4).alloc (.cells #[.int .i64 4, .int .i64 2] 26))
  have B4 := hid (Blk.new w4 26 #[.int .i64 4, .int .i64 2])
  clear x4
  go_wp2_with fail
  refine (read_any 1 (show Rd _ none 0 [] from RdG.none_ _ 1) (by decide) (by decide) k5).mono ?_
  rintro e w5 ⟨rfl, x5⟩
  have X5 := hid (ext_trans (ext_trans X4.out (ext_alloc _ _)) x5)
  have B1 := hid ((B1.out.ext x5).alloc (.cells #[.int .i64 5, .int .i64 0] 26))
  have B2 := hid ((B2.out.ext x5).alloc (.cells #[.int .i64 5, .int .i64 0] 26))
  have B3 := hid ((B3.out.ext x5).alloc (.cells #[.int .i64 5, .int .i64 0] 26))
  have B4 := hid ((B4.out.ext x5).alloc (.cells #[.int .i64 5, .int .i64 0] 26))
  have B5 := hid (Blk.new w5 26 #[.int .i64 5, .int .i64 0])
  obtain ⟨c10, c11, c1f⟩ := B1.out.two
  obtain ⟨c20, c21, c2f⟩ := B2.out.two
  obtain ⟨c30, c31, c3f⟩ := B3.out.two
  obtain ⟨c40, c41, c4f⟩ := B4.out.two
  obtain ⟨c50, c51, c5f⟩ := B5.out.two
  clear x5
  go_wp2_with fail
  refine (new_in _).mono ?_
  rintro e w6 ⟨g, mb, rfl, p6, g6, m6, x6⟩
  have hz6 := x6.size
  simp only [World.size_alloc] at g6 m6 hz6
  have hg0 : w.heap.size ≤ g := by have := X5.out.size; omega
  have hm0 : w.heap.size ≤ mb := by have := X5.out.size; omega
  have X6 := hid (ext_trans (ext_trans X5.out (ext_alloc _ _)) x6)
  have P6 := hid p6
  have hgl : g < w6.heap.size := p6.1.lt
  have hml : mb < w6.heap.size := p6.2.1.lt
  clear B1 B2 B3 B4 B5 c10 c11 c1f c20 c21 c2f c30 c31 c3f c40 c41 c4f c50 c51 c5f p6 x6 X1 X2 X3 X4 g6 m6
  go_wp2_with fail
  refine (name_lit 12 [1, 97, 1, 98, 0] ⟨#[1, 97, 1, 98, 0]⟩ rfl P6.out (by decide) (by decide) q1 5 rfl).mono ?_
  rintro e w7 ⟨A1, c1, rfl, o1, p7, s7⟩
  have P7 := hid p7
  have S7 := hid s7
  have O1 := hid o1
  have hz7 := s7.size
  clear p7 s7 o1
  go_wp2_with fail
  refine (name_lit 17 [1, 99, 1, 98, 0] ⟨#[1, 99, 1, 98, 0]⟩ rfl P7.out (by decide) (by decide) q2 4 rfl).mono ?_
  rintro e w8 ⟨A2, c2, rfl, o2, p8, s8⟩
  have P8 := hid p8
  have S8 := hid s8
  have O2 := hid o2
  have O1 := hid (keep_own O1.out s8 (by omega) (by omega))
  have hz8 := s8.size
  clear p8 s8 o2
  go_wp2_with fail
  refine (name_lit 21 [1, 65, 1, 98, 0] ⟨#[1, 65, 1, 98, 0]⟩ rfl P8.out (by decide) (by decide) q3 4 rfl).mono ?_
  rintro e w9 ⟨A3, c3, rfl, o3, p9, s9⟩
  have P9 := hid p9
  have S9 := hid s9
  have O3 := hid o3
  have O1 := hid (keep_own O1.out s9 (by omega) (by omega))
  have O2 := hid (keep_own O2.out s9 (by omega) (by omega))
  have hz9 := s9.size
  clear p9 s9 o3
  have B9 : Below w.heap.size w w9 := by
    have u : ∀ k, k < w.heap.size → ¬ (k = g ∨ k = mb) := fun k hk e => by omega
    have y7 := Below.trans X6.out (S7.out.below X6.out.size u)
    have y8 := Below.trans y7 (S8.out.below y7.size u)
    exact Below.trans y8 (S9.out.below y8.size u)
  have Y9 := hid B9
  clear B9
  obtain ⟨wm, hcv, xm, hcm, hzm⟩ := mark_lit w9 #[.int .u8 1, .int .u8 97, .int .u8 1, .int .u8 98, .int .u8 0] 5
  have HCM := hid hcm
  have XM := hid xm
  clear hcm xm
  go_wp2_with fail
  refine (same_mark (n := 5) [1, 97, 1, 98, 0] #[.int .u8 1, .int .u8 97, .int .u8 1, .int .u8 98, .int .u8 0] rfl rfl (by decide) O1.out.rd _ rfl XM.out HCM.out hzm).mono ?_
  rintro e _ ⟨rfl, rfl⟩
  clear hcv hzm
  have O1 := hid (O1.out.ext XM.out)
  have O2 := hid (O2.out.ext XM.out)
  have O3 := hid (O3.out.ext XM.out)
  have P9 := hid (P9.out.ext XM.out)
  have Y9 := hid (below_ext Y9.out Y9.out.size XM.out)
  go_wp2_with fail
  refine (same_lit (n := 4) [1, 99, 192, 14] #[.int .u8 1, .int .u8 99, .int .u8 192, .int .u8 14] rfl rfl (by decide) O2.out.rd _ (by first | rfl | simp)).mono ?_
  rintro e _ ⟨rfl, rfl⟩
  have O1 := hid (O1.out.ext (ext_alloc _ (.cells #[.int .u8 1, .int .u8 99, .int .u8 192, .int .u8 14] 5)))
  have O2 := hid (O2.out.ext (ext_alloc _ (.cells #[.int .u8 1, .int .u8 99, .int .u8 192, .int .u8 14] 5)))
  have O3 := hid (O3.out.ext (ext_alloc _ (.cells #[.int .u8 1, .int .u8 99, .int .u8 192, .int .u8 14] 5)))
  have P9 := hid (P9.out.ext (ext_alloc _ (.cells #[.int .u8 1, .int .u8 99, .int .u8 192, .int .u8 14] 5)))
  have Y9 := hid (below_ext Y9.out Y9.out.size (ext_alloc _ (.cells #[.int .u8 1, .int .u8 99, .int .u8 192, .int .u8 14] 5)))
  go_wp2_with fail
  refine (same_lit (n := 4) [1, 65, 192, 14] #[.int .u8 1, .int .u8 65, .int .u8 192, .int .u8 14] rfl rfl (by decide) O3.out.rd _ (by first | rfl | simp)).mono ?_
  rintro e _ ⟨rfl, rfl⟩
  have O1 := hid (O1.out.ext (ext_alloc _ (.cells #[.int .u8 1, .int .u8 65, .int .u8 192, .int .u8 14] 5)))
  have O2 := hid (O2.out.ext (ext_alloc _ (.cells #[.int .u8 1, .int .u8 65, .int .u8 192, .int .u8 14] 5)))
  have O3 := hid (O3.out.ext (ext_alloc _ (.cells #[.int .u8 1, .int .u8 65, .int .u8 192, .int .u8 14] 5)))
  have P9 := hid (P9.out.ext (ext_alloc _ (.cells #[.int .u8 1, .int .u8 65, .int .u8 192, .int .u8 14] 5)))
  have Y9 := hid (below_ext Y9.out Y9.out.size (ext_alloc _ (.cells #[.int .u8 1, .int .u8 65, .int .u8 192, .int .u8 14] 5)))
  go_wp2_with fail
  refine (known_in P9.out).mono ?_
  rintro e _ ⟨rfl, rfl⟩
  have ht3 : ((t3.length : Nat) : Int) = 4 := rfl
  have hg9 := P9.out.1.lt
  have hm9 := P9.out.2.1.lt
  have hz9 := Y9.out.size
  go_wp2_with fail
  refine (name_lit 25 [1, 98, 0] ⟨#[1, 98, 0]⟩ rfl P9.out (by decide) (by decide) q4 2 rfl).mono ?_
  rintro e w10 ⟨A4, c4, rfl, o4, p10, s10⟩
  have P10 := hid p10
  have S10 := hid s10
  have O4 := hid o4
  clear p10 s10 o4
  go_wp2_with fail
  refine (name_lit 26 [0] ⟨#[0]⟩ rfl P10.out (by decide) (by decide) q5 0 rfl).mono ?_
  rintro e w11 ⟨A5, c5, rfl, o5, p11, s11⟩
  have P11 := hid p11
  have S11 := hid s11
  have O4 := hid (keep_own O4.out s11 hg9 hm9)
  clear p11 s11 o5
  go_wp2_with fail
  refine (name_lit 20 [0] ⟨#[0]⟩ rfl P11.out (by decide) (by decide) q6 0 rfl).mono ?_
  rintro e w12 ⟨A6, c6, rfl, o6, p12, s12⟩
  have S12 := hid s12
  have O4 := hid (keep_own O4.out s12 hg9 hm9)
  clear p12 s12 o6
  have u : ∀ k, k < w.heap.size → ¬ (k = g ∨ k = mb) := fun k hk e => by omega
  have y10 := Below.trans Y9.out (S10.out.below hz9 u)
  have y11 := Below.trans y10 (S11.out.below y10.size u)
  have Y12 := hid (Below.trans y11 (S12.out.below y11.size u))
  clear y10 y11 u
  go_wp2_with fail
  refine (awake_yes _).mono ?_
  rintro e w13 ⟨rfl, x13⟩
  have O4 := hid (O4.out.ext x13)
  have Y13 := hid (below_ext Y12.out Y12.out.size x13)
  clear x13
  go_wp2_with fail
  refine (same_lit (n := 2) [192, 14] #[.int .u8 192, .int .u8 14] rfl rfl (by decide) O4.out.rd _ (by first | rfl | simp)).mono ?_
  rintro e _ ⟨rfl, rfl⟩
  go_wp2_with fail
  go_ret
  exact ⟨rfl, below_ext Y13.out Y13.out.size (ext_alloc _ _)⟩
end Go.Proofs.Ytfimfmghfjokjaa

/- Layer 23: CacheKeeps. -/
import Derived.Test.YtcddfenhkljpeaaChcQ
import Derived.Test.YtcddfenhkljpeaaKPick
namespace Go.Proofs.Ytcddfenhkljpeaa
open Go.BK Go.BK.CH Go.BK.NM Go.RowKit Go.Maps
set_option linter.unusedVariables false
set_option linter.unusedSimpArgs false
theorem rdI_at {w : World} {A : Option Addr} {c : Nat} {l : List Int} (h : RdI w A c l) (h0 : 0 < l.length) : ∃ b o, A = some ⟨b, o, none⟩ ∧ b < w.heap.size ∧ ∀ k, k < l.length → w.cell? ⟨b, o + k, none⟩ = some (.int .i64 (l.getD k 0)) := by
  obtain ⟨b, o, hA, hb, hc⟩ := h.1.2.2.2 h0
  exact ⟨b, o, hA, hb, fun k hk => hc k _ (by simp [hk])⟩
theorem rdI_shy {w w' : World} {A : Option Addr} {c : Nat} {l : List Int} (h : RdI w A c l) (hs : Shy (fun j => w.heap.size ≤ j) w w') (h0 : 0 < l.length) :
    ∃ b o, A = some ⟨b, o, none⟩ ∧ ∀ k, k < l.length → w'.cell? ⟨b, o + k, none⟩ = some (.int .i64 (l.getD k 0)) ∧ (-9223372036854775808 ≤ l.getD k 0 ∧ l.getD k 0 ≤ 9223372036854775807) := by
  obtain ⟨b, o, hA, hlt, hc⟩ := rdI_at h h0
  have hb : Below w.heap.size w w' := hs.below (Nat.le_refl _) (fun k hk e => by omega)
  refine ⟨b, o, hA, fun k hk => ⟨(hb.cell (p := ⟨b, o + k, none⟩) hlt).trans (hc k hk), ?_⟩⟩
  have h2 : l.getD k 0 ∈ l := by simp [List.getD, hk]
  exact h.2 _ h2
theorem pk_k (x : Int) : 1 ≤ 1 + pick x 1048576 ∧ 1 + pick x 1048576 ≤ 1048576 := by
  have h := pick_range x 1048576 (by decide)
  omega
def KpRel (w0 : World) (B g n : Nat) (T : Nat → Int) (now : Int) (i : Value) (wr : World) : Prop :=
  ∃ k : Nat, k ≤ n ∧ i = .int .i64 k ∧ Qc (fun j => B ≤ j ∧ j < wr.heap.size) wr g n (stK T now k) ∧ Shy (fun j => B ≤ j) w0 wr ∧ B ≤ wr.heap.size
def KgRel (w0 : World) (B g n : Nat) (T : Nat → Int) (now t : Int) (i : Value) (wr : World) : Prop :=
  ∃ (k : Nat) (s : StC), k ≤ n ∧ i = .int .i64 k ∧ Qc (fun j => B ≤ j ∧ j < wr.heap.size) wr g n s ∧ KeepS n T now t s ∧ Shy (fun j => B ≤ j) w0 wr ∧ B ≤ wr.heap.size
def GotD (B : Nat) (wr w w' : World) (g n : Nat) (T : Nat → Int) (now t : Int) (s : StC) : Prop :=
  ∃ s', Qc (fun j => B ≤ j ∧ j < wr.heap.size) w' g n s' ∧ KeepS n T now t s' ∧ Shy (fun j => B ≤ j ∧ j < wr.heap.size) w w'
set_option maxHeartbeats 4000000 in
set_option maxRecDepth 100000 in
theorem keeps_walk {A : Option Addr} {c : Nat} {l : List Int} (now later : Int) (w : World) (hl : RdI w A c l) (h1 : -9223372036854775808 ≤ now ∧ now ≤ 9223372036854775807) (h2 : -9223372036854775808 ≤ later ∧ later ≤ 9223372036854775807) :
    Calls Try.prog 3 #[.slice A l.length c, .int .i64 now, .int .i64 later] w fun e w' => e = .returned (.bool true) ∧ Below w.heap.size w w' := by
  obtain ⟨B, hB⟩ : ∃ B, w.heap.size = B := ⟨_, rfl⟩
  rw [hB]
  have HB := hid hB
  have AW := awake_yes w
  rw [hB] at AW
  have AW := hid AW
  obtain ⟨n, hn⟩ : ∃ n, l.length = n := ⟨_, rfl⟩
  have hn9 := hl.1.n_le
  have HL := hid hl
  rw [hn] at hn9 ⊢
  have HN := hid hn
  have PL := hid (fun W => pick_any later 1048581 W h2 (by decide))
  obtain ⟨lt, hlt0⟩ : ∃ lt, pick later 1048581 = lt := ⟨_, rfl⟩
  have rlt : 0 ≤ lt ∧ lt ≤ 1048580 := by have := pick_range later 1048581 (by decide); omega
  rw [hlt0] at PL
  obtain ⟨T, hT⟩ : ∃ T : Nat → Int, ∀ i, 1 + pick (l.getD i 0) 1048576 = T i := ⟨_, fun _ => rfl⟩
  have HT := hid hT
  have RT := hid (fun i => (by rw [← hT i]; exact pk_k _ : 1 ≤ T i ∧ T i ≤ 1048576))
  clear hB hl hn h1 h2 hlt0 hT
  go_enter Try.func3, Try.ntmps3
  go_wp2_with fail
  refine AW.out.mono ?_
  rintro e w0 ⟨rfl, x0⟩
  have X0 := hid x0
  have Z0 : Hid (Shy (fun k => B ≤ k) w w0) := hid (Shy.of_ext (by have := HB.out; subst this; exact x0))
  have hz0 : B ≤ w0.heap.size := by have h1 := HB.out; have h2 := x0.size; omega
  clear x0 AW
  by_cases g1 : n < 1
  · have i1 : decide ((n : Int) < 1) = true := by simp; omega
    go_wp2_with fail
    go_ret
    exact ⟨rfl, X0.out⟩
  have i1 : decide ((n : Int) < 1) = false := by simp; omega
  by_cases g2 : 20 < n
  · have i2 : decide ((20 : Int) < (n : Int)) = true := by simp; omega
    go_wp2_with fail
    go_ret
    exact ⟨rfl, X0.out⟩
  have i2 : decide ((20 : Int) < (n : Int)) = false := by simp; omega
  by_cases g3 : now < 0
  · have i3 : decide (now < 0) = true := by simp; omega
    go_wp2_with fail
    go_ret
    exact ⟨rfl, X0.out⟩
  have i3 : decide (now < 0) = false := by simp; omega
  by_cases g4 : 1073741824 < now
  · have i4 : decide (1073741824 < now) = true := by simp; omega
    go_wp2_with fail
    go_ret
    exact ⟨rfl, X0.out⟩
  have i4 : decide (1073741824 < now) = false := by simp; omega
  have hnp : 0 < n := by omega
  have hn20 : n ≤ 20 := by omega
  have hnw : 0 ≤ now ∧ now ≤ 1073741824 := by omega
  clear g1 g2 g3 g4
  have C0 := c_new n w0 (by omega)
  simp only [pt] at C0
  have C0 := hid C0
  go_wp2_with fail
  refine C0.out.mono ?_
  rintro e w1 ⟨g, rfl, q1, x1⟩
  have hz1 : B ≤ w1.heap.size := by have h2 := x1.size; omega
  have Q1 : Hid (Qc (fun k => B ≤ k ∧ k < w1.heap.size) w1 g n (stK T now 0)) := hid (q1.mono (fun k h _ => by omega))
  have Z1 : Hid (Shy (fun k => B ≤ k) w w1) := hid (Z0.out.ext x1)
  clear q1 x1 C0 i1 i2 i3 i4
  go_wp2_with fail
  go_loopw [10] (fun i wr => KpRel w B g n T now i wr) (fun i _ => n - (intOf i).toNat)
  case atStart => exact ⟨0, Nat.zero_le _, rfl, Q1.out, Z1.out, hz1⟩
  case round =>
    obtain ⟨k, hk, rfl, q, z, hzr⟩ := hrel
    by_cases hlt : k < n
    · have i1 : (k : Int) < (n : Int) := by omega
      obtain ⟨b, o, rfl, hc⟩ := rdI_shy HL.out (by rw [HB.out]; exact z) (by rw [HN.out]; omega)
      obtain ⟨c0, y0⟩ := hc k (by rw [HN.out]; exact hlt)
      have eT := HT.out k
      obtain ⟨z0, e0⟩ : ∃ z, l.getD k 0 = z := ⟨_, rfl⟩
      rw [e0] at c0 y0 eT
      have rT := RT.out k
      obtain ⟨Tk, hTk⟩ : ∃ t, T k = t := ⟨_, rfl⟩
      rw [hTk] at eT rT
      have eT1 : wrap64 (1 + pick z0 1048576) = Tk := by rw [eT]; exact IntWalk.wrap64_in _ (by omega)
      have eT2 : IntKind.i64.wrap (1 + pick z0 1048576) = Tk := by rw [eT]; exact IntWalk.i64_in _ (by omega)
      have PK := hid (fun W => pick_any z0 1048576 W y0 (by decide))
      have Q := hid q
      have Z := hid z
      have HTK := hid hTk
      clear q z hc e0 y0 eT hTk
      go_wp2_with fail
      refine (PK.out _).mono ?_
      rintro e _ ⟨rfl, rfl⟩
      go_wp2_with fail
      refine (set_in Tk _).mono ?_
      rintro e w2 ⟨A1, c1, rfl, o2, x2⟩
      have HX2 := hid x2.size
      have xb := ext_alloc w2 (.cells #[.string (str [1, 97, 0]), .int .i64 1, .int .i64 1, .int .i64 Tk, .slice A1 1 c1] 30)
      have bs := Blk.new w2 30 #[.string (str [1, 97, 0]), .int .i64 1, .int .i64 1, .int .i64 Tk, .slice A1 1 c1]
      obtain ⟨w3, hw3⟩ : ∃ w3, w2.alloc (.cells #[.string (str [1, 97, 0]), .int .i64 1, .int .i64 1, .int .i64 Tk, .slice A1 1 c1] 30) = w3 := ⟨_, rfl⟩
      obtain ⟨gs, hgs⟩ : ∃ gs, w2.heap.size = gs := ⟨_, rfl⟩
      rw [hw3] at xb bs
      have HA1 := hid (fun k hk => (by have h1 := (o2.lt k hk).2; rw [hgs] at h1; exact h1 : k < gs))
      rw [hgs] at bs
      have X3 := hid (ext_trans x2 xb)
      have O3 := hid (o2.ext xb)
      have BS := hid bs
      have HW3 := hid hw3
      have HGS := hid hgs
      clear x2 xb o2 bs hw3 hgs c0
      obtain ⟨cu, hcu⟩ : ∃ cu, UInt8.ofNat (98 + k) = cu := ⟨_, rfl⟩
      have hcu2 : ((cu.toNat : Nat) : Int) = 98 + (k : Int) := by rw [← hcu]; simp; omega
      have hb8 : IntKind.u8.wrap (98 + (k : Int)) = ((cu.toNat : Nat) : Int) := by rw [hcu2]; exact IntWalk.u8_in _ (by omega)
      have xs := ext_alloc w3 (.cells #[.int .u8 (98 + (k : Int))] 5)
      have os := Own.lit w3 [cu] 5 #[.int .u8 (98 + (k : Int))] (by rw [← hcu2]; rfl) (by simp [maxLen])
      obtain ⟨w4, hw4⟩ : ∃ w4, w3.alloc (.cells #[.int .u8 (98 + (k : Int))] 5) = w4 := ⟨_, rfl⟩
      obtain ⟨gb, hgb⟩ : ∃ gb, w3.heap.size = gb := ⟨_, rfl⟩
      rw [hw4, hgb] at os
      rw [hw4] at xs
      have hcv := run_convert_rd (P := Try.prog) os.rd 33 5 Try.underlying33 Try.underlying5 9 Try.underlying9
      have hcv : (convert 33 9 (.slice (some ⟨gb, 0, none⟩) 1 1)).run Try.prog w4 = .ok (.string (str [cu])) w4 := hcv
      have bs4 := BS.out.ext xs
      have r0 := bs4.cell
      have rf := bs4.frozen
      simp at r0
      have HGB := hid hgb
      have HW4 := hid hw4
      have HCU := hid hcu
      clear os hcu
      go_upto_region 11 with (fail)
      rw [HW3.out, HGS.out]
      go_upto_region 12 with (fail)
      have hsn : (⟨#[1]⟩ ++ str [cu] ++ ⟨#[0]⟩ : ByteArray) = str [1, cu, 0] := by
        show str [1] ++ str [cu] ++ str [0] = _
        rw [str_append, str_append]
        rfl
      have b5 := bs4.set_ 0 (.string (⟨#[1]⟩ ++ str [cu] ++ ⟨#[0]⟩))
      have s5 := set_shy gs 0 (.string (⟨#[1]⟩ ++ str [cu] ++ ⟨#[0]⟩)) w4
      obtain ⟨w5, hw5⟩ : ∃ w5, w4.setCell ⟨gs, 0, none⟩ (.string (⟨#[1]⟩ ++ str [cu] ++ ⟨#[0]⟩)) = w5 := ⟨_, rfl⟩
      rw [hw5] at b5 s5 ⊢
      rw [hsn] at b5
      clear r0 rf hcv hw5 hsn bs4
      have l0 := b5.cell 0
      have l1 := b5.cell 1
      have l2 := b5.cell 2
      have l3 := b5.cell 3
      have l4 := b5.cell 4
      simp at l0 l1 l2 l3 l4
      have PK2 := put_k (T := T) hnw.1 hlt hn20
      rw [HTK.out, show nmB k = [1, cu, 0] from by unfold nmB; rw [HCU.out], show (1 + ((k % 3 : Nat) : Int)) = 1 + (k : Int) % 3 from by omega] at PK2
      have X4 := ext_trans X3.out xs
      have hgs3 : wr.heap.size ≤ gs := by have h1 := X3.out.size; have h2 := HGS.out; have h3 := HX2.out; omega
      have Q5 := (Q.out.ext X4).shy s5 (fun k h1 h2 e => by omega)
      have O5 := s5.ownG (O3.out.ext xs) (fun k hk e => by have h1 := (O3.out.lt k hk).2; have h2 := HA1.out k hk; omega)
      have CP := one_put Q5 (nm := [1, cu, 0]) (ttl := Tk) (d := [120]) O5 (fun k e => e.2) (by have := (nmB_ok k (by omega)).1; rwa [show nmB k = [1, cu, 0] from by unfold nmB; rw [HCU.out]] at this) (by simp) (by omega) (by decide) (rank := 1 + (k : Int) % 3) (at_ := now) (by omega) (by omega) (by unfold inTime; omega)
      rw [PK2] at CP
      have CP := hid CP
      have Z5 : Hid (Shy (fun j => B ≤ j) w w5) := hid ((Z.out.ext X4).trans s5 (fun k _ e => by omega))
      have hz5 : B ≤ w5.heap.size := by have h2 := X4.size; have h3 := s5.size; omega
      clear Q5 O5 X4 s5 PK2 b5
      go_wp2_with fail
      with_reducible refine CP.out.mono ?_
      rintro e w6 ⟨rfl, q6, s6⟩
      have hz6 : B ≤ w6.heap.size := by have h2 := s6.size; omega
      have REL : KpRel w B g n T now (.int .i64 ((k : Int) + 1)) w6 := ⟨k + 1, hlt, by go_num, q6.mono (fun k h1 h2 => ⟨by rcases h2 with h2 | h2; exact h2.1; omega, h1⟩), Z5.out.trans s6 (fun k _ e => e.1), hz6⟩
      have REL := hid REL
      clear q6 s6 CP l0 l1 l2 l3 l4
      go_wp2_with fail
      go_roundw
      case rel => exact REL.out
      case measure => simp [intOf]; omega
    · obtain rfl : k = n := by omega
      obtain ⟨wa, hwa⟩ : ∃ wa, wa = wr := ⟨_, rfl⟩
      subst hwa
      have KS := hid (keep_in (n := k) (T := T) hnw.1 (show now ≤ now + lt by omega))
      have Q := hid q
      have Z := hid z
      clear q z hk Q1 Z1 X0 Z0
      go_wp2_with fail
      refine (PL.out _).mono ?_
      rintro e _ ⟨rfl, rfl⟩
      clear PL
      go_wp2_with fail
      go_loopw [14] (fun i wr => KgRel w B g k T now (now + lt) i wr) (fun i _ => k - (intOf i).toNat)
      case atStart => exact ⟨0, _, Nat.zero_le _, rfl, Q.out, KS.out, Z.out, hzr⟩
      case round =>
        obtain ⟨i, s, hi, rfl, q, ks, z, hzr2⟩ := hrel
        by_cases hlt : i < k
        · have i1 : (i : Int) < (k : Int) := by omega
          obtain ⟨b, o, rfl, hc⟩ := rdI_shy HL.out (by rw [HB.out]; exact z) (by rw [HN.out]; omega)
          obtain ⟨c0, y0⟩ := hc i (by rw [HN.out]; exact hlt)
          have eT := HT.out i
          obtain ⟨z0, e0⟩ : ∃ z, l.getD i 0 = z := ⟨_, rfl⟩
          rw [e0] at c0 y0 eT
          have rT := RT.out i
          obtain ⟨Tk, hTk⟩ : ∃ t, T i = t := ⟨_, rfl⟩
          rw [hTk] at eT rT
          have eT1 : wrap64 (1 + pick z0 1048576) = Tk := by rw [eT]; exact IntWalk.wrap64_in _ (by omega)
          have eT2 : IntKind.i64.wrap (1 + pick z0 1048576) = Tk := by rw [eT]; exact IntWalk.i64_in _ (by omega)
          obtain ⟨d, hd⟩ : ∃ d, Tk - lt = d := ⟨_, rfl⟩
          have rd : -2000000 ≤ d ∧ d ≤ 2000000 := by omega
          have ed1 : wrap64 (Tk - lt) = d := by rw [hd]; exact IntWalk.wrap64_in _ (by omega)
          have ed2 : IntKind.i64.wrap (Tk - lt) = d := by rw [hd]; exact IntWalk.i64_in _ (by omega)
          obtain ⟨t, ht⟩ : ∃ t, now + lt = t := ⟨_, rfl⟩
          have rt : 0 ≤ t ∧ t ≤ 1099511627776 := by omega
          have et1 : wrap64 (now + lt) = t := by rw [ht]; exact IntWalk.wrap64_in _ (by omega)
          have et2 : IntKind.i64.wrap (now + lt) = t := by rw [ht]; exact IntWalk.i64_in _ (by omega)
          have PK := hid (fun W => pick_any z0 1048576 W y0 (by decide))
          have Q := hid q
          have Z := hid z
          have KS2 := hid ks
          have HTK := hid hTk
          have HD := hid hd
          have HT2 := hid ht
          clear q z hc e0 y0 eT hTk hd ht ks
          go_wp2_with fail
          refine (PK.out _).mono ?_
          rintro e _ ⟨rfl, rfl⟩
          obtain ⟨cu, hcu⟩ : ∃ cu, UInt8.ofNat (98 + i) = cu := ⟨_, rfl⟩
          have hcu2 : ((cu.toNat : Nat) : Int) = 98 + (i : Int) := by rw [← hcu]; simp; omega
          have xs := ext_alloc wr (.cells #[.int .u8 (98 + (i : Int))] 5)
          have os := Own.lit wr [cu] 5 #[.int .u8 (98 + (i : Int))] (by rw [← hcu2]; rfl) (by simp [maxLen])
          obtain ⟨w4, hw4⟩ : ∃ w4, wr.alloc (.cells #[.int .u8 (98 + (i : Int))] 5) = w4 := ⟨_, rfl⟩
          obtain ⟨gb, hgb⟩ : ∃ gb, wr.heap.size = gb := ⟨_, rfl⟩
          rw [hw4, hgb] at os
          rw [hw4] at xs
          have hcv := run_convert_rd (P := Try.prog) os.rd 33 5 Try.underlying33 Try.underlying5 9 Try.underlying9
          have hcv : (convert 33 9 (.slice (some ⟨gb, 0, none⟩) 1 1)).run Try.prog w4 = .ok (.string (str [cu])) w4 := hcv
          have HGB := hid hgb
          have HCU := hid hcu
          have Q4 := hid (Q.out.ext xs)
          have Z4 := hid (Z.out.ext xs)
          have hz4 : B ≤ w4.heap.size := by have h3 := xs.size; omega
          have XS := hid xs.size
          clear os hcu xs
          have hsn : (⟨#[1]⟩ ++ str [cu] ++ ⟨#[0]⟩ : ByteArray) = str [1, cu, 0] := by
            show str [1] ++ str [cu] ++ str [0] = _
            rw [str_append, str_append]
            rfl
          have hnb : nmB i = [1, cu, 0] := by unfold nmB; rw [HCU.out]
          have hin : inTime t := rt
          by_cases hp : 0 < d
          · have KY := keep_yes KS2.out Q4.out.1.2.2.2.2 hlt hn20 (by rw [HTK.out]; have := HD.out; have := HT2.out; omega)
            rw [HTK.out, HT2.out, hnb, show now + Tk - t = d from by have := HD.out; have := HT2.out; omega] at KY
            have CG : Hid (Calls Try.prog 15 #[.pointer (some ⟨g, 0, none⟩), .string (str [1, cu, 0]), .int .i64 1, .int .i64 1, .int .i64 t] w4 fun e w' =>
                ∃ A c, e = .returned (.agg #[.int .i64 1, .string (str [1, cu, 0]), .int .i64 1, .int .i64 1, .int .i64 d, .slice A 1 c, .int .i64 d]) ∧ GotD B wr w4 w' g k T now t s) := hid (by
              have h1 := c_get (Q4.out.mono (V := fun j => B ≤ j ∧ j < wr.heap.size) (fun j _ e => e)) (n := [1, cu, 0]) (kind := 1) (rank := 1) (at_ := t) (by simp) (by have := (nmB_ok i (by omega)).1; rwa [hnb] at this) hin (by decide)
              rw [KY.1] at h1
              exact h1.mono fun e w' ⟨A, c, he, ho, hq, hs⟩ => ⟨A, c, he, _, hq, KY.2, hs⟩)
            go_wp2_with fail
            with_reducible refine CG.out.mono ?_
            rintro e w7 ⟨A7, c7, rfl, s', q7, k7, s7⟩
            have xb := ext_alloc w7 (.cells #[.int .i64 1, .string (str [1, cu, 0]), .int .i64 1, .int .i64 1, .int .i64 d, .slice A7 1 c7, .int .i64 d] 37)
            have bx := Blk.new w7 37 #[.int .i64 1, .string (str [1, cu, 0]), .int .i64 1, .int .i64 1, .int .i64 d, .slice A7 1 c7, .int .i64 d]
            obtain ⟨w8, hw8⟩ : ∃ w8, w7.alloc (.cells #[.int .i64 1, .string (str [1, cu, 0]), .int .i64 1, .int .i64 1, .int .i64 d, .slice A7 1 c7, .int .i64 d] 37) = w8 := ⟨_, rfl⟩
            obtain ⟨gx, hgx⟩ : ∃ gx, w7.heap.size = gx := ⟨_, rfl⟩
            rw [hw8] at xb bx
            rw [hgx] at bx
            have hz8 : B ≤ w8.heap.size := by have h2 := s7.size; have h3 := xb.size; omega
            have hz9 : wr.heap.size ≤ w8.heap.size := by have h2 := s7.size; have h3 := xb.size; have h4 := XS.out; omega
            have REL : KgRel w B g k T now (now + lt) (.int .i64 ((i : Int) + 1)) w8 := ⟨i + 1, s', hlt, by go_num, (q7.ext xb).mono (fun j _ e => ⟨e.1, by omega⟩), by rw [HT2.out]; exact k7, (Z4.out.trans s7 (fun j _ e => e.1)).ext xb, hz8⟩
            have REL := hid REL
            have HW8 := hid hw8
            have HGX := hid hgx
            have l0 := bx.cell 0
            have l6 := bx.cell 6
            simp at l0 l6
            have p1 : decide (0 < d) = true := by simpa using hp
            have p2 : decide (d ≤ 0) = false := by simpa using hp
            clear q7 k7 s7 CG xb bx hw8 hgx hcv hsn
            go_upto_region 21 with (fail)
            rw [HW8.out, HGX.out]
            go_wp2_with fail
            go_roundw
            case rel => exact REL.out
            case measure => simp [intOf]; omega
          · have KY := keep_no KS2.out Q4.out.1.2.2.2.2 hlt hn20 (by rw [HTK.out]; have := HD.out; have := HT2.out; omega)
            rw [HT2.out, hnb] at KY
            have CG : Hid (Calls Try.prog 15 #[.pointer (some ⟨g, 0, none⟩), .string (str [1, cu, 0]), .int .i64 1, .int .i64 1, .int .i64 t] w4 fun e w' =>
                ∃ A c, e = .returned (.agg #[.int .i64 0, .string (str []), .int .i64 0, .int .i64 0, .int .i64 0, .slice A 0 c, .int .i64 0]) ∧ GotD B wr w4 w' g k T now t s) := hid (by
              have h1 := c_get (Q4.out.mono (V := fun j => B ≤ j ∧ j < wr.heap.size) (fun j _ e => e)) (n := [1, cu, 0]) (kind := 1) (rank := 1) (at_ := t) (by simp) (by have := (nmB_ok i (by omega)).1; rwa [hnb] at this) hin (by decide)
              rw [KY.1] at h1
              exact h1.mono fun e w' ⟨A, c, he, ho, hq, hs⟩ => ⟨A, c, he, _, hq, KY.2, hs⟩)
            go_wp2_with fail
            with_reducible refine CG.out.mono ?_
            rintro e w7 ⟨A7, c7, rfl, s', q7, k7, s7⟩
            have xb := ext_alloc w7 (.cells #[.int .i64 0, .string (str []), .int .i64 0, .int .i64 0, .int .i64 0, .slice A7 0 c7, .int .i64 0] 37)
            have bx := Blk.new w7 37 #[.int .i64 0, .string (str []), .int .i64 0, .int .i64 0, .int .i64 0, .slice A7 0 c7, .int .i64 0]
            obtain ⟨w8, hw8⟩ : ∃ w8, w7.alloc (.cells #[.int .i64 0, .string (str []), .int .i64 0, .int .i64 0, .int .i64 0, .slice A7 0 c7, .int .i64 0] 37) = w8 := ⟨_, rfl⟩
            obtain ⟨gx, hgx⟩ : ∃ gx, w7.heap.size = gx := ⟨_, rfl⟩
            rw [hw8] at xb bx
            rw [hgx] at bx
            have hz8 : B ≤ w8.heap.size := by have h2 := s7.size; have h3 := xb.size; omega
            have hz9 : wr.heap.size ≤ w8.heap.size := by have h2 := s7.size; have h3 := xb.size; have h4 := XS.out; omega
            have REL : KgRel w B g k T now (now + lt) (.int .i64 ((i : Int) + 1)) w8 := ⟨i + 1, s', hlt, by go_num, (q7.ext xb).mono (fun j _ e => ⟨e.1, by omega⟩), by rw [HT2.out]; exact k7, (Z4.out.trans s7 (fun j _ e => e.1)).ext xb, hz8⟩
            have REL := hid REL
            have HW8 := hid hw8
            have HGX := hid hgx
            have l0 := bx.cell 0
            have l6 := bx.cell 6
            simp at l0 l6
            have p1 : decide (0 < d) = false := by simpa using hp
            have p2 : decide (d ≤ 0) = true := by simpa using hp
            clear q7 k7 s7 CG xb bx hw8 hgx hcv hsn
            go_upto_region 21 with (fail)
            rw [HW8.out, HGX.out]
            go_wp2_with fail
            go_roundw
            case rel => exact REL.out
            case measure => simp [intOf]; omega
        · obtain rfl : i = k := by omega
          go_wp2_with fail
          go_ret
          exact ⟨rfl, z.below (by have := HB.out; omega) (fun k hk e => by omega)⟩
end Go.Proofs.Ytcddfenhkljpeaa

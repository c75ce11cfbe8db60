/- name.Text: a name's text. -/
import Derived.Test.YtcgcadhnecakaaaNamT
import Derived.Test.YtcgcadhnecakaaaNamJ
import Derived.IntWalk
namespace Go.Proofs.Ytcgcadhnecakaaa
open Go.BK Go.RowKit Go.BK.NM
set_option linter.unusedVariables false

/-- A builder whose bytes do not lie in block g. -/
def BldN (w : World) (base b g : Nat) (l : List UInt8) : Prop := ∃ p A c, (p = .pointer none ∨ p = .pointer (some ⟨b, 0, none⟩)) ∧ BldP w base b p A c l ∧ blk A ≠ some g ∧ g ≠ b ∧ g < w.heap.size
theorem BldN.bld {w : World} {base b g : Nat} {l : List UInt8} (h : BldN w base b g l) : Bld w base b l := by
  obtain ⟨p, A, c, hp, h, _⟩ := h; exact ⟨p, A, c, hp, h⟩
theorem Bld.beside {w : World} {base b : Nat} {l : List UInt8} (h : Bld w base b l) (o : Obj) : BldN (w.alloc o) base b w.heap.size l := by
  obtain ⟨p, A, c, hp, hb, ho, hlt, hz⟩ := h
  have hbl := hb.lt
  exact ⟨p, A, c, hp, ⟨hb.alloc o, ho.ext (ext_alloc _ _), hlt, by simp; omega⟩, fun e => by have := (ho.lt _ e).2; omega, by omega, by simp⟩

set_option maxHeartbeats 2000000 in
set_option maxRecDepth 100000 in
theorem write_byte_n (base b g : Nat) (l : List UInt8) (x : UInt8) (w : World) (h : BldN w base b g l) (hlen : l.length + 1 ≤ 140737488355328) :
    Calls Try.prog 37 #[.pointer (some ⟨b, 0, none⟩), .int .u8 x.toNat] w fun e w' => e = .returned .nilIface ∧ BldN w' base b g (l ++ [x]) ∧ Shy (fun k => (k = b ∨ base ≤ k) ∧ k ≠ g) w w' := by
  obtain ⟨i0, hi, hz0, hz1, hz2⟩ := info_parts info_b8
  obtain ⟨p, A, c, hp, h, hng, hgb, hgw⟩ := h
  have cc := hid (check_any base b p A c l w h hp)
  clear h hp
  go_enter Try.func37, Try.ntmps37
  go_wp2_with fail
  refine cc.out.mono ?_
  rintro e w1 ⟨rfl, ⟨hbk, hown, hlt, hz⟩, hs1⟩
  obtain ⟨c0, c1, cf⟩ := hbk.two
  clear cc
  have hne : some b ≠ blk A := by
    intro e
    have := (hown.lt b e.symm).1
    omega
  go_wp2_with (at_builtin; go_must (refine wpList_append_1' rfl (.tmp 11) (.tmp 13) 53 rfl base 5 i0 (.int .u8 0) 1 Try.underlying53 hi hz0 hz1 hz2 rfl ⟨0, rfl⟩ (fun _ h => h.one) rfl hown (u8v x) (by rfl) ⟨_, rfl⟩ (by omega) (by unfold maxLen; omega) hz ?_); intro A5 c5 w5 o5 g5 x5 n5; have K5 := hbk.grown g5 hne; obtain ⟨d0, d1, df⟩ := K5.two)
  go_ret
  have hg1 : g < w1.heap.size := Nat.lt_of_lt_of_le hgw hs1.size
  have hg5 : g < w5.heap.size := Nat.lt_of_lt_of_le hg1 g5.size
  refine ⟨rfl, ⟨_, A5, c5, .inr rfl, ⟨by simpa using K5.set_ 1 (.slice A5 (l ++ [x]).length c5), ?_, hlt, ?_⟩, ?_, hgb, by simpa [World.setCell] using hg5⟩, ?_⟩
  · have : BK.Own w5 base 5 A5 c5 (l ++ [x]) := by simpa [BK.Own] using o5
    exact this.far hlt _
  · have := g5.size
    simp only [World.setCell]
    simpa using Nat.le_trans hz this
  · intro e
    rcases n5 g e with h | h
    · exact hng h
    · omega
  · have s1 : Shy (fun k => (k = b ∨ base ≤ k) ∧ k ≠ g) w w1 := hs1.mono fun k _ hk => ⟨.inl hk, by rintro rfl; exact hgb hk⟩
    have s2 : Shy (fun k => (k = b ∨ base ≤ k) ∧ k ≠ g) w w5 := s1.grown g5 (fun k hk _ => ⟨.inr (hown.lt k hk).1, by rintro rfl; exact hng hk⟩)
    exact s2.trans (shy_set 1 _) (fun k _ hk => ⟨.inl hk, by rintro rfl; exact hgb hk⟩)

def LetPost (base b : Nat) (l : List UInt8) (w w' : World) : Prop := Bld w' base b l ∧ Shy (fun k => k = b ∨ base ≤ k) w w'

set_option maxHeartbeats 4000000 in
set_option maxRecDepth 100000 in
theorem letter_in (base b : Nat) (l : List UInt8) (c : UInt8) (w : World) (h : Bld w base b l) (hlen : l.length ≤ 1000000) :
    Calls Try.prog 42 #[.pointer (some ⟨b, 0, none⟩), .int .u8 c.toNat] w fun e w' => e = .returned (.tuple #[]) ∧ LetPost base b (l ++ escT c) w w' := by
  have HB := hid h
  have c256 := c.toNat_lt
  clear h
  by_cases hesc : c = 46 ∨ c = 92
  · have he : escT c = [92, c] := by unfold escT; rw [if_pos hesc]
    have HE := hid he
    have b1 : ((c.toNat : Int) == 46) = decide (c = 46) := by rcases hesc with rfl | rfl <;> rfl
    have b2 : ((c.toNat : Int) == 92) = decide (c = 92) := by rcases hesc with rfl | rfl <;> rfl
    clear he
    rcases hesc with rfl | rfl
    · clear b1 b2
      go_enter Try.func42, Try.ntmps42
      go_wp2_with fail
      (refine (write_byte base b l 92 _ HB.out (by omega)).mono ?_)
      rintro e w1 ⟨rfl, B1, s1⟩
      have HB1 := hid B1
      have S1 := hid s1
      clear B1 s1
      go_wp2_with fail
      (refine (write_byte base b (l ++ [92]) 46 _ HB1.out (by simp; omega)).mono ?_)
      rintro e w2 ⟨rfl, B2, s2⟩
      have HB2 := hid B2
      have S2 := hid (S1.out.trans s2 (fun _ _ h => h))
      clear B2 s2
      go_wp2_with fail
      go_end0
      refine ⟨rfl, ?_, S2.out⟩
      rw [HE.out]
      simpa using HB2.out
    · clear b1 b2
      go_enter Try.func42, Try.ntmps42
      go_wp2_with fail
      (refine (write_byte base b l 92 _ HB.out (by omega)).mono ?_)
      rintro e w1 ⟨rfl, B1, s1⟩
      have HB1 := hid B1
      have S1 := hid s1
      clear B1 s1
      go_wp2_with fail
      (refine (write_byte base b (l ++ [92]) 92 _ HB1.out (by simp; omega)).mono ?_)
      rintro e w2 ⟨rfl, B2, s2⟩
      have HB2 := hid B2
      have S2 := hid (S1.out.trans s2 (fun _ _ h => h))
      clear B2 s2
      go_wp2_with fail
      go_end0
      refine ⟨rfl, ?_, S2.out⟩
      rw [HE.out]
      simpa using HB2.out
  · have n46 : c ≠ 46 := fun e => hesc (.inl e)
    have n92 : c ≠ 92 := fun e => hesc (.inr e)
    have b1 : ((c.toNat : Int) == 46) = false := by rw [beq_eq_false_iff_ne]; intro e; apply n46; rw [← UInt8.toNat_inj]; show c.toNat = 46; omega
    have b2 : ((c.toNat : Int) == 92) = false := by rw [beq_eq_false_iff_ne]; intro e; apply n92; rw [← UInt8.toNat_inj]; show c.toNat = 92; omega
    by_cases hv : vis c = true
    · have he : escT c = [c] := by unfold escT; rw [if_neg hesc, if_pos hv]
      have HE := hid he
      have hr : 33 ≤ c.toNat ∧ c.toNat ≤ 126 := by unfold vis at hv; rwa [decide_eq_true_iff] at hv
      have y1 : decide ((c.toNat : Int) < 33) = false := by rw [decide_eq_false_iff_not]; omega
      have y1' : decide (c.toNat < 33) = false := by rw [decide_eq_false_iff_not]; omega
      have y2 : decide ((126 : Int) < (c.toNat : Int)) = false := by rw [decide_eq_false_iff_not]; omega
      have y2' : decide (126 < c.toNat) = false := by rw [decide_eq_false_iff_not]; omega
      clear he hv hesc n46 n92 hr
      go_enter Try.func42, Try.ntmps42
      go_wp2_with fail
      (refine (write_byte base b l c _ HB.out (by omega)).mono ?_)
      rintro e w1 ⟨rfl, B1, s1⟩
      have HB1 := hid B1
      have S1 := hid s1
      clear B1 s1
      go_wp2_with fail
      go_end0
      refine ⟨rfl, ?_, S1.out⟩
      rw [HE.out]
      exact HB1.out
    · have he : escT c = [92, UInt8.ofNat (48 + c.toNat / 100), UInt8.ofNat (48 + c.toNat / 10 % 10), UInt8.ofNat (48 + c.toNat % 10)] := by unfold escT; rw [if_neg hesc, if_neg hv]
      have HE := hid he
      have hr : ¬ (33 ≤ c.toNat ∧ c.toNat ≤ 126) := fun h => hv (by unfold vis; rw [decide_eq_true_iff]; exact h)
      have HR := hid hr
      clear he hv hesc n46 n92 hr
      obtain ⟨x, hx⟩ : ∃ x, x = c.toNat / 100 := ⟨_, rfl⟩
      obtain ⟨y, hy⟩ : ∃ x, x = c.toNat / 10 % 10 := ⟨_, rfl⟩
      obtain ⟨z, hz⟩ : ∃ x, x = c.toNat % 10 := ⟨_, rfl⟩
      rw [← hx, ← hy, ← hz] at HE
      have ex : (c.toNat : Int) / 100 = (x : Int) := by omega
      have ey : (c.toNat : Int) / 10 % 10 = (y : Int) := by omega
      have ez : (c.toNat : Int) % 10 = (z : Int) := by omega
      obtain ⟨D, hD⟩ : ∃ D, D = [x, y, z] := ⟨_, rfl⟩
      have HD := hid hD
      have HD10 : Hid (∀ j, D.getD j 0 < 10) := by
        refine hid fun j => ?_
        rw [hD]
        rcases j with _ | _ | _ | j <;> simp <;> omega
      have EX := hid (And.intro ex (And.intro ey ez))
      clear hx hy hz hD ex ey ez
      by_cases h33 : c.toNat < 33
      · have y1 : decide ((c.toNat : Int) < 33) = true := by rw [decide_eq_true_iff]; omega
        have y1' : decide (c.toNat < 33) = true := by rw [decide_eq_true_iff]; omega
        clear h33
        go_enter Try.func42, Try.ntmps42
        go_wp2_with fail
        (refine (write_byte base b l 92 _ HB.out (by omega)).mono ?_)
        rintro e w1 ⟨rfl, B1, s1⟩
        have HB1 := hid B1
        have S1 := hid s1
        have hz1 : base ≤ w1.heap.size := B1.size
        clear B1 s1
        go_wp2_with fail
        obtain ⟨g, hg⟩ : ∃ g, g = w1.heap.size := ⟨_, rfl⟩
        obtain ⟨w2, hw2⟩ : ∃ w2, w2 = w1.alloc (.cells #[.int .u8 ((c.toNat : Int) / 100), .int .u8 ((c.toNat : Int) / 10 % 10), .int .u8 ((c.toNat : Int) % 10)] 5) := ⟨_, rfl⟩
        have N2 : BldN w2 base b g (l ++ [92]) := by rw [hw2, hg]; exact HB1.out.beside _
        have K2 : Blk w2 g 5 #[.int .u8 ((c.toNat : Int) / 100), .int .u8 ((c.toNat : Int) / 10 % 10), .int .u8 ((c.toNat : Int) % 10)] := by rw [hw2, hg]; exact Blk.new _ _ _
        have s2 : Shy (fun k => k = b ∨ base ≤ k) w w2 := by rw [hw2]; exact S1.out.ext (ext_alloc _ _)
        have hbg : base ≤ g := by omega
        rw [← hw2, ← hg]
        have HN2 := hid N2
        have HK2 := hid K2
        have HS2 := hid s2
        clear hw2 hg N2 K2 s2 hz1
        go_loopw [39] (fun iv wr => ∃ j : Nat, j ≤ 3 ∧ iv = .int .i64 j ∧ Hid (BldN wr base b g (l ++ 92 :: (D.take j).map (fun d => UInt8.ofNat (48 + d)))) ∧ Hid (Blk wr g 5 #[.int .u8 ((c.toNat : Int) / 100), .int .u8 ((c.toNat : Int) / 10 % 10), .int .u8 ((c.toNat : Int) % 10)]) ∧ Hid (Shy (fun k => k = b ∨ base ≤ k) w wr)) (fun iv _ => 3 - (intOf iv).toNat)
        case atStart => exact ⟨0, by omega, rfl, by simpa using HN2, HK2, HS2⟩
        case round =>
          obtain ⟨j, hj, rfl, NN, KK, SS⟩ := hrel
          by_cases hlt : j < 3
          · have hlt' : (j : Int) < 3 := by omega
            have z1 : decide ((j : Int) < 3) = true := by rw [decide_eq_true_iff]; omega
            have z1' : decide (j < 3) = true := by rw [decide_eq_true_iff]; omega
            obtain ⟨d, hd⟩ : ∃ d, d = D.getD j 0 := ⟨_, rfl⟩
            have hd10 : d < 10 := by rw [hd]; exact HD10.out j
            have hcell : wr.cell? ⟨g, j, none⟩ = some (.int .u8 (d : Int)) := by
              rw [KK.out.cell j, hd, HD.out, EX.out.1, EX.out.2.1, EX.out.2.2]
              rcases j with _ | _ | _ | j
              · rfl
              · rfl
              · rfl
              · omega
            have hnext : l ++ 92 :: (D.take (j + 1)).map (fun d => UInt8.ofNat (48 + d)) = (l ++ 92 :: (D.take j).map (fun d => UInt8.ofNat (48 + d))) ++ [UInt8.ofNat (48 + d)] := by
              rw [List.take_add_one, hd, HD.out]
              rcases j with _ | _ | _ | j
              · simp
              · simp
              · simp
              · omega
            have hu : ((UInt8.ofNat (48 + d)).toNat : Int) = 48 + (d : Int) := by rw [UInt8.toNat_ofNat']; omega
            have CW := hid (fun (W : World) (hW : BldN W base b g (l ++ 92 :: (D.take j).map (fun d => UInt8.ofNat (48 + d)))) => write_byte_n base b g (l ++ 92 :: (D.take j).map (fun d => UInt8.ofNat (48 + d))) (UInt8.ofNat (48 + d)) W hW (by simp; have := List.length_take_le j D; rw [HD.out] at this; simp at this; omega))
            rw [hu, ← hnext] at CW
            clear hd hu hnext
            go_wp2_with fail
            (with_reducible refine (CW.out _ NN.out).mono ?_)
            rintro e w3 ⟨rfl, B3, s3⟩
            have K3 : Blk w3 g 5 #[.int .u8 ((c.toNat : Int) / 100), .int .u8 ((c.toNat : Int) / 10 % 10), .int .u8 ((c.toNat : Int) % 10)] := (s3.block g KK.out.lt (by simp)).trans KK.out
            have S3 : Shy (fun k => k = b ∨ base ≤ k) w w3 := SS.out.trans s3 (fun k _ hk => hk.1)
            have HB3 := hid B3
            have HK3 := hid K3
            have HS3 := hid S3
            clear B3 s3 K3 S3 hcell
            go_wp2_with fail
            exact ⟨⟨j + 1, by omega, by go_num, HB3, HK3, HS3⟩, by simp [intOf]; omega⟩
          · obtain rfl : j = 3 := by omega
            clear hlt hj
            go_wp2_with fail
            go_end0
            refine ⟨rfl, ?_, SS.out⟩
            rw [HE.out]
            have := NN.out.bld
            rw [HD.out] at this
            simpa using this
      · have y1 : decide ((c.toNat : Int) < 33) = false := by rw [decide_eq_false_iff_not]; omega
        have y1' : decide (c.toNat < 33) = false := by rw [decide_eq_false_iff_not]; omega
        have h126 : 126 < c.toNat := by have := HR.out; omega
        have y2 : decide ((126 : Int) < (c.toNat : Int)) = true := by rw [decide_eq_true_iff]; omega
        have y2' : decide (126 < c.toNat) = true := by rw [decide_eq_true_iff]; omega
        clear h33 h126
        go_enter Try.func42, Try.ntmps42
        go_wp2_with fail
        (refine (write_byte base b l 92 _ HB.out (by omega)).mono ?_)
        rintro e w1 ⟨rfl, B1, s1⟩
        have HB1 := hid B1
        have S1 := hid s1
        have hz1 : base ≤ w1.heap.size := B1.size
        clear B1 s1
        go_wp2_with fail
        obtain ⟨g, hg⟩ : ∃ g, g = w1.heap.size := ⟨_, rfl⟩
        obtain ⟨w2, hw2⟩ : ∃ w2, w2 = w1.alloc (.cells #[.int .u8 ((c.toNat : Int) / 100), .int .u8 ((c.toNat : Int) / 10 % 10), .int .u8 ((c.toNat : Int) % 10)] 5) := ⟨_, rfl⟩
        have N2 : BldN w2 base b g (l ++ [92]) := by rw [hw2, hg]; exact HB1.out.beside _
        have K2 : Blk w2 g 5 #[.int .u8 ((c.toNat : Int) / 100), .int .u8 ((c.toNat : Int) / 10 % 10), .int .u8 ((c.toNat : Int) % 10)] := by rw [hw2, hg]; exact Blk.new _ _ _
        have s2 : Shy (fun k => k = b ∨ base ≤ k) w w2 := by rw [hw2]; exact S1.out.ext (ext_alloc _ _)
        have hbg : base ≤ g := by omega
        rw [← hw2, ← hg]
        have HN2 := hid N2
        have HK2 := hid K2
        have HS2 := hid s2
        clear hw2 hg N2 K2 s2 hz1
        go_loopw [39] (fun iv wr => ∃ j : Nat, j ≤ 3 ∧ iv = .int .i64 j ∧ Hid (BldN wr base b g (l ++ 92 :: (D.take j).map (fun d => UInt8.ofNat (48 + d)))) ∧ Hid (Blk wr g 5 #[.int .u8 ((c.toNat : Int) / 100), .int .u8 ((c.toNat : Int) / 10 % 10), .int .u8 ((c.toNat : Int) % 10)]) ∧ Hid (Shy (fun k => k = b ∨ base ≤ k) w wr)) (fun iv _ => 3 - (intOf iv).toNat)
        case atStart => exact ⟨0, by omega, rfl, by simpa using HN2, HK2, HS2⟩
        case round =>
          obtain ⟨j, hj, rfl, NN, KK, SS⟩ := hrel
          by_cases hlt : j < 3
          · have hlt' : (j : Int) < 3 := by omega
            have z1 : decide ((j : Int) < 3) = true := by rw [decide_eq_true_iff]; omega
            have z1' : decide (j < 3) = true := by rw [decide_eq_true_iff]; omega
            obtain ⟨d, hd⟩ : ∃ d, d = D.getD j 0 := ⟨_, rfl⟩
            have hd10 : d < 10 := by rw [hd]; exact HD10.out j
            have hcell : wr.cell? ⟨g, j, none⟩ = some (.int .u8 (d : Int)) := by
              rw [KK.out.cell j, hd, HD.out, EX.out.1, EX.out.2.1, EX.out.2.2]
              rcases j with _ | _ | _ | j
              · rfl
              · rfl
              · rfl
              · omega
            have hnext : l ++ 92 :: (D.take (j + 1)).map (fun d => UInt8.ofNat (48 + d)) = (l ++ 92 :: (D.take j).map (fun d => UInt8.ofNat (48 + d))) ++ [UInt8.ofNat (48 + d)] := by
              rw [List.take_add_one, hd, HD.out]
              rcases j with _ | _ | _ | j
              · simp
              · simp
              · simp
              · omega
            have hu : ((UInt8.ofNat (48 + d)).toNat : Int) = 48 + (d : Int) := by rw [UInt8.toNat_ofNat']; omega
            have CW := hid (fun (W : World) (hW : BldN W base b g (l ++ 92 :: (D.take j).map (fun d => UInt8.ofNat (48 + d)))) => write_byte_n base b g (l ++ 92 :: (D.take j).map (fun d => UInt8.ofNat (48 + d))) (UInt8.ofNat (48 + d)) W hW (by simp; have := List.length_take_le j D; rw [HD.out] at this; simp at this; omega))
            rw [hu, ← hnext] at CW
            clear hd hu hnext
            go_wp2_with fail
            (with_reducible refine (CW.out _ NN.out).mono ?_)
            rintro e w3 ⟨rfl, B3, s3⟩
            have K3 : Blk w3 g 5 #[.int .u8 ((c.toNat : Int) / 100), .int .u8 ((c.toNat : Int) / 10 % 10), .int .u8 ((c.toNat : Int) % 10)] := (s3.block g KK.out.lt (by simp)).trans KK.out
            have S3 : Shy (fun k => k = b ∨ base ≤ k) w w3 := SS.out.trans s3 (fun k _ hk => hk.1)
            have HB3 := hid B3
            have HK3 := hid K3
            have HS3 := hid S3
            clear B3 s3 K3 S3 hcell
            go_wp2_with fail
            exact ⟨⟨j + 1, by omega, by go_num, HB3, HK3, HS3⟩, by simp [intOf]; omega⟩
          · obtain rfl : j = 3 := by omega
            clear hlt hj
            go_wp2_with fail
            go_end0
            refine ⟨rfl, ?_, SS.out⟩
            rw [HE.out]
            have := NN.out.bld
            rw [HD.out] at this
            simpa using this
end Go.Proofs.Ytcgcadhnecakaaa

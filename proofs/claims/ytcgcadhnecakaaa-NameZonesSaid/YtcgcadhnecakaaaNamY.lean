/- name.Text whole. -/
import Derived.Test.YtcgcadhnecakaaaNamV
import Derived.Test.YtcgcadhnecakaaaNamW
namespace Go.Proofs.Ytcgcadhnecakaaa
open Go.BK Go.RowKit Go.BK.NM
set_option linter.unusedVariables false

theorem take_snoc {L : List Bs} {k : Nat} (h : k < L.length) : L.take (k + 1) = L.take k ++ [L.getD k []] := by
  rw [List.take_add_one, List.getD_eq_getElem?_getD, List.getElem?_eq_getElem h]; rfl
theorem take_snoc_b {s : Bs} {k : Nat} (h : k < s.length) : s.take (k + 1) = s.take k ++ [s.getD k 0] := by
  rw [List.take_add_one, List.getD_eq_getElem?_getD, List.getElem?_eq_getElem h]; rfl
theorem labT_snoc (s : Bs) (c : UInt8) : labT (s ++ [c]) = labT s ++ escT c := by simp [labT]
theorem lineT_snoc (L : List Bs) (s : Bs) : lineT (L ++ [s]) = lineT L ++ labT s ++ [46] := by simp [lineT]
theorem lineT_take_le (L : List Bs) (k : Nat) : (lineT (L.take k)).length ≤ (lineT L).length := by
  have : lineT L = lineT (L.take k) ++ lineT (L.drop k) := by rw [← lineT_append, List.take_append_drop]
  rw [this]; simp

set_option maxHeartbeats 4000000 in
set_option maxRecDepth 100000 in
theorem text_in (n : Bs) (w : World) (hn : n.length ≤ 2000000) :
    Calls Try.prog 33 #[.string (str n)] w fun e w' => e = .returned (.tuple #[.string (str (textS n).1), .int .i64 (textS n).2]) ∧ Ext w w' := by
  have CA := hid (fun W => labels_in n W hn)
  obtain ⟨V, hV⟩ : ∃ V, V = textS n := ⟨_, rfl⟩
  rw [← hV]
  have HV := hid hV
  clear hV
  by_cases h1 : checkS n = 0
  · obtain ⟨L, hL, hnw, hok, hnl⟩ := labels_good h1
    rw [hL] at CA
    simp only at CA
    rcases L with _ | ⟨s0, L0⟩
    · have hv : V = ([46], 0) := by rw [HV.out]; unfold textS; rw [hL]; rfl
      clear h1 hL hnw hok hnl
      go_enter Try.func33, Try.ntmps33
      go_wp2_with fail
      (with_reducible refine (CA.out _).mono ?_)
      rintro e w1 ⟨A, c, rfl, oA, x1⟩
      have X1 := hid x1
      clear oA x1
      go_wp2_with fail
      go_ret2
      rw [hv]
      exact ⟨rfl, X1.out⟩
    · obtain ⟨L, hLe⟩ : ∃ L, L = s0 :: L0 := ⟨_, rfl⟩
      have hL1 : 1 ≤ L.length := by rw [hLe]; simp
      rw [← hLe] at hL hnw hok CA
      have hv : V = (lineT L, 0) := by
        rw [HV.out]; unfold textS; rw [hL]; simp only [if_true]; rw [if_neg]; rw [hLe]; simp
      have HVV := hid hv
      have hLn : L.length ≤ 255 := Nat.le_trans wire_len_le (by rw [← hnw]; exact hnl)
      have hln : (lineT L).length ≤ 1020 := by have := (lineT_len L).2; rw [← hnw] at this; omega
      have HOK := hid hok
      clear h1 hL hnw hok hnl hLe hv
      have z0 : ((L.length : Int) == 0) = false := by rw [beq_eq_false_iff_ne]; omega
      go_enter Try.func33, Try.ntmps33
      go_wp2_with fail
      (with_reducible refine (CA.out _).mono ?_)
      rintro e w1 ⟨A, c, rfl, oA, x1⟩
      have rA := OwnG.rd oA
      have cA9 := rA.c_le
      have cAn := rA.cap.1
      have X1 := hid x1
      have RA := hid rA
      clear oA x1 rA CA
      go_wp2_with fail
      obtain ⟨b, hb⟩ : ∃ b, b = w1.heap.size := ⟨_, rfl⟩
      obtain ⟨w2, hw2⟩ : ∃ w2, w2 = w1.alloc (.cells #[.pointer none, .slice none 0 0] 55) := ⟨_, rfl⟩
      have B2 : Bld w2 (b + 1) b [] := by rw [hw2, hb]; exact Bld.new _ _ _ (Blk.new w1 _ _) (by omega) (by simp)
      have e2 : Ext w1 w2 := by rw [hw2]; exact ext_alloc _ _
      rw [← hw2, ← hb]
      have HB2 := hid B2
      have HE2 := hid e2
      have HBB := hid hb
      clear hw2 hb B2 e2
      go_loopw [23] (fun iv wr => ∃ k : Nat, k ≤ L.length ∧ iv = .int .i64 k ∧ Hid (Bld wr (b + 1) b (lineT (L.take k))) ∧ Hid (Shy (fun j => j = b ∨ b + 1 ≤ j) w2 wr)) (fun iv _ => L.length - (intOf iv).toNat)
      case atStart => exact ⟨0, Nat.zero_le _, rfl, HB2, hid (Shy.refl _)⟩
      case round =>
        obtain ⟨k, hk, rfl, BB, SS⟩ := hrel
        by_cases hlt : k < L.length
        · obtain ⟨g, o, hA0, hgl, hc⟩ := RdG.text RA.out hlt
          subst hA0
          obtain ⟨s, hs⟩ : ∃ s, s = L.getD k [] := ⟨_, rfl⟩
          rw [← hs] at hc
          have hsm : s ∈ L := by rw [hs, List.getD_eq_getElem?_getD, List.getElem?_eq_getElem hlt]; exact List.getElem_mem _
          have hs63 := HOK.out s hsm
          have hts := take_snoc hlt
          rw [← hs] at hts
          have HTS := hid hts
          have hc2 : wr.cell? ⟨g, o + k, none⟩ = some (.string (str s)) := by
            have h1 : w2.cell? ⟨g, o + k, none⟩ = some (.string (str s)) := (HE2.out.cell (p := ⟨g, o + k, none⟩) hgl).trans hc
            have h2 := SS.out.block g (Nat.lt_of_lt_of_le hgl HE2.out.size) (by have := HBB.out; omega)
            exact (World.cell?_of_block h2).trans h1
          obtain ⟨t, ht⟩ : ∃ t, t = str s := ⟨_, rfl⟩
          have htz : t.size = s.length := by rw [ht, str_size]
          have htz9 : t.size ≤ 63 := by omega
          have hk1 : (k : Int) < (L.length : Int) := by omega
          rw [← ht] at hc2
          have HT := hid ht
          have HTZ := hid htz
          clear hc hs hsm hts ht htz
          go_wp2_with fail
          go_loopw [29] (fun iv wq => ∃ j : Nat, j ≤ s.length ∧ iv = .int .i64 j ∧ Hid (Bld wq (b + 1) b (lineT (L.take k) ++ labT (s.take j))) ∧ Hid (Shy (fun j => j = b ∨ b + 1 ≤ j) w2 wq)) (fun iv _ => s.length - (intOf iv).toNat)
          case atStart => exact ⟨0, Nat.zero_le _, rfl, by simpa [labT] using BB, SS⟩
          case round =>
            obtain ⟨j, hj, rfl, BJ, SJ⟩ := hrel
            by_cases hlj : j < s.length
            · have hjt : j < t.size := by rw [HTZ.out]; exact hlj
              have hji : (j : Int) < (t.size : Int) := by omega
              obtain ⟨x, hx⟩ : ∃ x, x = s.getD j 0 := ⟨_, rfl⟩
              have b0 : t[j]'hjt = x := by
                have h1 : (str s).data[j]? = some (s.getD j 0) := str_lt hlj
                have h3 : t.data[j]? = some x := by rw [HT.out, h1, hx]
                exact (Array.getElem?_eq_some_iff.1 h3).2
              have htj := take_snoc_b hlj
              rw [← hx] at htj
              have hlen : (lineT (L.take k) ++ labT (s.take j)).length ≤ 1000000 := by
                have a1 := lineT_take_le L k
                have a2 := (labT_len (s.take j)).2
                have a3 := List.length_take_le j s
                rw [List.length_append]; omega
              have CL := hid (fun (W : World) (hW : Bld W (b + 1) b (lineT (L.take k) ++ labT (s.take j))) => letter_in (b + 1) b _ x W hW hlen)
              have hn2 : lineT (L.take k) ++ labT (s.take j) ++ escT x = lineT (L.take k) ++ labT (s.take (j + 1)) := by rw [htj, labT_snoc, List.append_assoc]
              rw [hn2] at CL
              have x256 := x.toNat_lt
              clear hx htj hlen hn2
              go_wp2_with fail
              (with_reducible refine (CL.out _ BJ.out).mono ?_)
              rintro e w3 ⟨rfl, B3, s3⟩
              have HB3 := hid B3
              have HS3 := hid (SJ.out.trans s3 (fun _ _ h => h))
              clear B3 s3
              go_wp2_with fail
              exact ⟨⟨j + 1, by omega, by go_num, HB3, HS3⟩, by simp [intOf]; omega⟩
            · obtain rfl : j = s.length := by omega
              have bj := BJ.out
              rw [List.take_length] at bj
              have HBJ := hid bj
              have hlen : (lineT (L.take k) ++ labT s).length + 1 ≤ 140737488355328 := by
                have a1 := lineT_take_le L k
                have a2 := (labT_len s).2
                rw [List.length_append]; omega
              have CW := hid (fun (W : World) (hW : Bld W (b + 1) b (lineT (L.take k) ++ labT s)) => write_byte (b + 1) b _ 46 W hW hlen)
              have hn2 : lineT (L.take k) ++ labT s ++ [46] = lineT (L.take (k + 1)) := by rw [HTS.out, lineT_snoc]
              rw [hn2] at CW
              have zj : decide ((s.length : Int) < (t.size : Int)) = false := by rw [decide_eq_false_iff_not, HTZ.out]; omega
              have zj' : decide (s.length < t.size) = false := by rw [decide_eq_false_iff_not, HTZ.out]; omega
              clear bj hlen hn2 hlj hj
              go_wp2_with fail
              (refine (CW.out _ HBJ.out).mono ?_)
              rintro e w3 ⟨rfl, B3, s3⟩
              have HB3 := hid B3
              have HS3 := hid (SJ.out.trans s3 (fun _ _ h => h))
              clear B3 s3
              go_wp2_with fail
              exact ⟨⟨k + 1, by omega, by go_num, HB3, HS3⟩, by simp [intOf]; omega⟩
        · obtain rfl : k = L.length := by omega
          have bb := BB.out
          rw [List.take_length] at bb
          have HBB2 := hid bb
          have CS := hid (fun (W : World) (hW : Bld W (b + 1) b (lineT L)) => bld_string _ _ _ W hW)
          clear bb hlt hk
          go_wp2_with fail
          (with_reducible refine (CS.out _ HBB2.out).mono ?_)
          rintro e w6 ⟨rfl, b6⟩
          go_wp2_with fail
          go_ret2
          rw [HVV.out]
          refine ⟨rfl, ?_⟩
          have s1 : Below b w2 wr := SS.out.below (by have := HE2.out.size; have := HBB.out; omega) (fun j hj hu => by omega)
          have s2 : Below b w2 w6 := Below.trans s1 b6
          have e2 := HE2.out
          rw [HBB.out] at s2
          exact ext_trans X1.out (Below.trans e2 s2)
  · have hv : V = ([], (labelsS n).2) := by rw [HV.out]; unfold textS; rw [if_neg (by unfold checkS at h1; exact h1)]
    have hn0 := labels_bad h1
    obtain ⟨E, hE⟩ : ∃ E, E = (labelsS n).2 := ⟨_, rfl⟩
    rw [← hE] at hv
    have hnE : labelsS n = ([], E) := by rw [hE, ← hn0]
    rw [hnE] at CA
    have y1 : (E != 0) = true := by rw [hE]; unfold checkS at h1; simpa using h1
    clear h1 hn0 hE hnE HV
    simp only at CA
    go_enter Try.func33, Try.ntmps33
    go_wp2_with fail
    (with_reducible refine (CA.out _).mono ?_)
    rintro e w1 ⟨A, c, rfl, oA, x1⟩
    have X1 := hid x1
    clear oA x1
    go_wp2_with fail
    go_ret2
    rw [hv]
    exact ⟨rfl, X1.out⟩
end Go.Proofs.Ytcgcadhnecakaaa

/- The document's Packer: Name. -/
import Derived.Test.YtfimfmghfjokjaaRefP
import Derived.Test.YtfimfmghfjokjaaKStr
import Derived.Test.YtfimfmghfjokjaaKStep
import Derived.Test.YtfimfmghfjokjaaWirU
import Derived.Deep.CutBlock
import Derived.Deep.DeepCutAuto
import Derived.BigQuiet
namespace Go.Proofs.Ytfimfmghfjokjaa
open Go.BK Go.RowKit Go.BK.NM
set_option linter.unusedVariables false

theorem info_tail : (Try.prog.info? 69).map (fun i => (i.zero, i.size, i.bytes)) = some (some (.agg #[.string ⟨#[]⟩, .int .i64 0]), 2, 24) := by kernel_rfl

theorem ptr_arr {k : Nat} (h : k < 16384) : (#[Value.int .u8 (192 + (k : Int) / 256), Value.int .u8 ((k : Int) % 256)] : Array Value) = ([UInt8.ofNat (192 + k / 256), UInt8.ofNat (k % 256)].map u8v).toArray := by
  have e1 : ((UInt8.ofNat (192 + k / 256)).toNat : Int) = 192 + (k : Int) / 256 := by rw [UInt8.toNat_ofNat']; omega
  have e2 : ((UInt8.ofNat (k % 256)).toNat : Int) = (k : Int) % 256 := by rw [UInt8.toNat_ofNat']; omega
  rw [List.map_cons, List.map_cons, List.map_nil]
  unfold u8v
  rw [e1, e2]
theorem tail_lit (W : World) (x : Bs) (k : Nat) (z : Int) (hz : z = (k : Int)) : RdG (W.alloc (.cells #[.string (str x), .int .i64 z] 69)) 2 (some ⟨W.heap.size, 0, none⟩) 1 1 (tcells [(x, k)]) := by
  subst hz
  have := (OwnG.new (ok := fun _ => True) (base := 0) (size := 2) (e := 69) W (tcells [(x, k)]) 1 1 (Nat.zero_le _) (by simp [tcells]) (Nat.le_refl _) (by unfold maxLen; decide) (fun _ _ => trivial)).rd
  simpa [tcells] using this
theorem zeroQ : ∀ u ∈ (Value.agg #[.string ⟨#[]⟩, .int .i64 0]).cells.toList, okQ u := by
  intro u hu
  have : u = .string ⟨#[]⟩ ∨ u = .int .i64 0 := by simpa [Value.cells] using hu
  rcases this with rfl | rfl
  · exact .inl ⟨_, rfl⟩
  · exact .inr ⟨_, rfl⟩

set_option maxHeartbeats 2000000 in
set_option maxRecDepth 100000 in
theorem ref_err {w : World} {q c e : Nat} {A : Option Addr} {T : Tails} (at_ : Int) (n : Bs) (E : Int) (h : QW w q A c T e) (hn : n.length ≤ 100000) (hE : checkS n ≠ 0 ∧ E = checkS n ∨ checkS n = 0 ∧ (at_ < 0 ∨ 65535 < at_) ∧ E = 2 ∨ checkS n = 0 ∧ 0 ≤ at_ ∧ at_ ≤ 65535 ∧ at_ < e ∧ E = 9) :
    Calls Try.prog 21 #[.pointer (some ⟨q, 0, none⟩), .int .i64 at_, .string (str n)] w fun e' w' => e' = .returned (.tuple #[.slice none 0 0, .int .i64 E]) ∧ Ext w w' := by
  have CC := hid (ref_check n w (by omega))
  have H := hid h
  have HE := hid hE
  obtain ⟨cn, hcn⟩ : ∃ c, c = checkS n := ⟨_, rfl⟩
  rw [← hcn] at CC HE
  clear h hE hcn
  go_enter Try.func21, Try.ntmps21
  go_wp2_with fail
  (with_reducible refine CC.out.mono ?_)
  rintro e' w1 ⟨rfl, x1⟩
  have X1 := hid x1
  obtain ⟨d0, d1, df⟩ := (H.out.1.ext x1).two
  clear x1
  rcases HE.out with ⟨h1, hEE⟩ | ⟨rfl, h1, rfl⟩ | ⟨rfl, h1, h2, h3, rfl⟩
  · subst hEE
    have z1 : (E != 0) = true := by simpa using h1
    go_wp2_with fail
    go_ret2
    exact ⟨rfl, X1.out⟩
  · rcases h1 with h1 | h1
    · go_wp2_with fail
      go_ret2
      exact ⟨rfl, X1.out⟩
    · have h0 : ¬ at_ < 0 := by omega
      go_wp2_with fail
      go_ret2
      exact ⟨rfl, X1.out⟩
  · have z1 : decide (at_ < 0) = false := by simpa using h1
    have z2 : decide (65535 < at_) = false := by simpa using h2
    have z3 : decide (at_ < (e : Int)) = true := by simpa using h3
    go_wp2_with fail
    go_ret2
    exact ⟨rfl, X1.out⟩

/-- Between two rounds. -/
def RefRun (w1 : World) (T : Tails) (at_ : Nat) (Ls : List Bs) (out fresh pos : Value) (wr : World) : Prop :=
  ∃ (J L : List Bs) (A Af : Option Addr) (c cf : Nat) (F : Tails), Ls = J ++ L ∧ pos = .int .i64 ((flat J).length : Int) ∧ out = .slice A (flat J).length c ∧ fresh = .slice Af F.length cf ∧
    Hid (BK.Own wr w1.heap.size 5 A c (flat J)) ∧ Hid (OwnG okQ wr w1.heap.size 69 2 Af F.length cf (tcells F)) ∧ Hid (∀ b, blk A = some b → blk Af ≠ some b) ∧ Hid (Ext w1 wr) ∧
    Hid (packL T at_ 0 Ls = (flat J ++ (packL T at_ (flat J).length L).1, F ++ (packL T at_ (flat J).length L).2))
/-- Behind the loop: all labels are told, or the rest was known. -/
def RefEnd (w1 : World) (Ls : List Bs) (R : Bs × Tails) (out fresh pos : Value) (wr : World) : Prop :=
  ∃ (O : Bs) (A Af : Option Addr) (c cf p : Nat), pos = .int .i64 (p : Int) ∧ out = .slice A O.length c ∧ fresh = .slice Af R.2.length cf ∧
    Hid (BK.Own wr w1.heap.size 5 A c O) ∧ Hid (OwnG okQ wr w1.heap.size 69 2 Af R.2.length cf (tcells R.2)) ∧ Hid (∀ b, blk A = some b → blk Af ≠ some b) ∧ Hid (Ext w1 wr) ∧ p < (wire Ls).length ∧
    ((((wire Ls).getD p 0).toNat = 0 ∧ R.1 = O ++ [0]) ∨ (((wire Ls).getD p 0).toNat ≠ 0 ∧ R.1 = O))

set_option maxHeartbeats 8000000 in
set_option maxRecDepth 100000 in
theorem ref_ok {w : World} {q c e : Nat} {A : Option Addr} {T : Tails} (at_ : Nat) (Ls : List Bs) (h : QW w q A c T e) (hL : okL Ls) (hl : (wire Ls).length ≤ 255) (ha : at_ ≤ 65535) (he : e ≤ at_) (hT : T.length ≤ 1000000) (hT4 : ∀ p ∈ T, p.2 < 16384) {R : Bs × Tails} (hR : packL T at_ 0 Ls = R) :
    Calls Try.prog 21 #[.pointer (some ⟨q, 0, none⟩), .int .i64 at_, .string (str (wire Ls))] w fun e' w' => ∃ Ao co A' c', e' = .returned (.tuple #[.slice Ao R.1.length co, .int .i64 0]) ∧ BK.Own w' w.heap.size 5 Ao co R.1 ∧ QW w' q A' c' (T ++ R.2) (at_ + R.1.length) ∧
      (∀ b, blk A' = some b → blk A = some b ∨ w.heap.size ≤ b) ∧ Shy (fun k => k = q ∨ blk A = some k) w w' := by
  obtain ⟨i0, hi, hz0, hz1, hz2⟩ := info_parts info_u8
  obtain ⟨j0, ji, jz0, jz1, jz2⟩ := info_parts info_tail
  have CC := hid (ref_check (wire Ls) w (by omega))
  rw [show checkS (wire Ls) = 0 from by unfold checkS; rw [labels_ok (labS_wire hL) hl]] at CC
  have H := hid h
  have HL := hid (And.intro hL (And.intro hl hR))
  have HT4 := hid hT4
  obtain ⟨s, hs⟩ : ∃ s, s = str (wire Ls) := ⟨_, rfl⟩
  have hsz : s.size = (wire Ls).length := by rw [hs, str_size]
  rw [← hs] at CC ⊢
  have HS := hid hs
  have HSZ := hid hsz
  have hs9 : s.size ≤ 255 := by omega
  clear h hL hl hR hT4 hs hsz
  go_enter Try.func21, Try.ntmps21
  go_wp2_with fail
  (with_reducible refine CC.out.mono ?_)
  rintro e' w1 ⟨rfl, x1⟩
  have X1 := hid x1
  obtain ⟨d0, d1, df⟩ := (H.out.1.ext x1).two
  clear x1
  have z1 : decide ((at_ : Int) < 0) = false := by simp
  have z2 : decide ((65535 : Int) < (at_ : Int)) = false := by simp; omega
  have z3 : decide (at_ < e) = false := by simp; omega
  go_upto_block 0 with (fail)
  go_cut [9, 10, 11] (fun out fresh pos wx => RefEnd w1 Ls R out fresh pos wx)
  case first =>
    go_wp2_with fail
    go_loopw [9, 10, 11] (fun out fresh pos wr => RefRun w1 T at_ Ls out fresh pos wr) (fun _ _ pos _ => 300 - (intOf pos).toNat)
    case atStart => exact ⟨[], Ls, none, none, 0, 0, [], rfl, by simp [flat_nil], rfl, rfl, hid (BK.Own.nil _ _ _), hid (OwnG.nil _ _ _ _ _), hid (fun b h => nomatch h), hid (ext_refl _), hid (by simp [flat_nil])⟩
    case round =>
      obtain ⟨J, L, Ao, Af, co, cf, F, hJ, rfl, rfl, rfl, OO, OF, AP, XX, HK⟩ := hrel
      obtain ⟨p, hp⟩ : ∃ p, p = (flat J).length := ⟨_, rfl⟩
      have ow : OwnG isU8 wr w1.heap.size 5 1 Ao p co ((flat J).map u8v) := by rw [hp]; exact OO.out
      have HW := hid ow
      have hwl : wire Ls = flat J ++ wire L := by rw [hJ, wire_flat, wire_flat, flat_append, List.append_assoc]
      have hzz : s.size = p + (wire L).length := by rw [HSZ.out, hwl, List.length_append, hp]
      have HPE := hid hp
      have HJ := hid hJ
      have HWL := hid hwl
      have PQ := H.out.ext (ext_trans X1.out XX.out)
      have CP := hid (fun x => place_in x PQ hT)
      rw [← hp]
      have hget : ∀ d r, wire L = d :: r → (wire Ls).getD p 0 = d := fun d r e => by rw [hwl, hp, e]; simp
      clear ow hwl hp hJ PQ
      rcases L with _ | ⟨s0, L⟩
      · have hd0 := hget 0 [] rfl
        have hps : p < s.size := by rw [hzz]; exact Nat.lt_succ_self _
        have hpi : (p : Int) < (s.size : Int) := by omega
        have hd : s[p]'hps = 0 := by
          have h1 : (str (wire Ls)).data[p]? = some ((wire Ls).getD p 0) := str_lt (by rw [← HSZ.out]; exact hps)
          have h3 : s.data[p]? = some 0 := by rw [HS.out, h1, hd0]
          exact (Array.getElem?_eq_some_iff.1 h3).2
        have HD0 := hid hd0
        clear hget hzz hd0
        go_wp2_with fail
        go_meet
        have hk := HK.out
        rw [packL_nil, List.append_nil, HL.out.2.2] at hk
        rw [← show R.2 = F from by rw [hk]]
        exact ⟨flat J, Ao, Af, co, cf, p, rfl, by rw [HPE.out], rfl, OO, by rw [show R.2 = F from by rw [hk]]; exact OF, AP, XX, by rw [← HSZ.out]; exact hps, .inl ⟨by rw [HD0.out]; rfl, by rw [hk]⟩⟩
      · have hs0 := HL.out.1 s0 (by rw [HJ.out]; simp)
        obtain ⟨y1, y2⟩ := size_of_label hs0
        have hwc : wire (s0 :: L) = UInt8.ofNat s0.length :: (s0 ++ wire L) := by rw [wire_cons]; rfl
        have hd0 := hget _ _ hwc
        obtain ⟨d, hdd⟩ : ∃ d, d = UInt8.ofNat s0.length := ⟨_, rfl⟩
        rw [← hdd] at hd0 hwc y1 y2
        have hwcl : (wire (s0 :: L)).length = s0.length + (wire L).length + 1 := by rw [hwc]; simp
        have hw1 := wire_len L
        have hps : p < s.size := by omega
        have hpi : (p : Int) < (s.size : Int) := by omega
        have hd : s[p]'hps = d := by
          have h1 : (str (wire Ls)).data[p]? = some ((wire Ls).getD p 0) := str_lt (by rw [← HSZ.out]; exact hps)
          have h3 : s.data[p]? = some d := by rw [HS.out, h1, hd0]
          exact (Array.getElem?_eq_some_iff.1 h3).2
        have zc : ((d.toNat : Int) != 0) = true := by rw [bne_iff_ne]; omega
        have he1 : s.extract p s.size = str (wire (s0 :: L)) := by
          rw [hzz, HS.out, HWL.out, HPE.out]; apply ByteArray.ext; simp [str]
        have he2 : s.extract p (p + 1 + d.toNat) = str (d :: s0) := by
          rw [y1, HS.out, HWL.out, HPE.out, hwc]; apply ByteArray.ext; simp [str]
          rw [show (flat J).length + 1 + s0.length - (flat J).length = s0.length + 1 from by omega, List.take_succ_cons, List.take_left]
        have hple : p ≤ s.size := by omega
        have hpli : (p : Int) ≤ (s.size : Int) := by omega
        have hq1 : p + 1 + d.toNat ≤ s.size := by omega
        have hq2 : (p : Int) + 1 + (d.toNat : Int) ≤ (s.size : Int) := by omega
        have d63 : d.toNat ≤ 63 := by omega
        have CP1 := hid (CP.out (wire (s0 :: L)))
        have HDD := hid (And.intro hdd (And.intro y1 (And.intro hd0 hzz)))
        clear hget hzz hd0 hdd y1 y2 hwc CP hs0
        have hFl : F.length ≤ 255 := by
          have := packL_count (T := T) (at_ := at_) Ls 0
          rw [HK.out] at this
          simp at this
          have h9 := wire_count Ls
          have := HL.out.2.1
          omega
        have hds : (d :: s0).length = d.toNat + 1 := by rw [List.length_cons, HDD.out.2.1]
        have hb1 := XX.out.size
        cases hk : lookT T (wire (s0 :: L)) with
        | some k =>
          rw [place_some hk] at CP1
          have hk4 := HT4.out _ (look_mem hk)
          have HKK := hid hk
          simp only at hk4
          have RK := hid ((Own.lit_at wr wr.heap.size [UInt8.ofNat (192 + k / 256), UInt8.ofNat (k % 256)] 5 #[.int .u8 (192 + (k : Int) / 256), .int .u8 ((k : Int) % 256)] rfl (ptr_arr hk4) (by unfold maxLen; simp)).rd)
          have hba : w1.heap.size ≤ (wr.alloc (.cells #[.int .u8 (192 + (k : Int) / 256), .int .u8 ((k : Int) % 256)] 5)).heap.size := by simp; omega
          clear hk hds
          go_wp2_with fail
          (with_reducible refine CP1.out.mono ?_)
          rintro ee _ ⟨rfl, rfl⟩
          go_wp2_with (at_builtin; first | ((with_reducible show wpList _ _ _ (⟨some 51, _, _, _, _, _⟩ :: _) _ _); go_must (refine wpList_append_g (by rfl) (.tmp 42) (.tmp 50) 22 rfl w1.heap.size 5 i0 (.int .u8 0) 1 1 Try.underlying22 hi hz0 hz1 hz2 rfl (by decide) (by simp [Value.cells]; exact ⟨0, rfl⟩) (fun _ h => h.one) rfl (HW.out.ext (ext_alloc _ _)) rfl RK.out (isU8_map _) (by omega) (by unfold maxLen; omega) hba ?_; intro A5 c5 w5 o5 g5 y5)))
          go_meet
          have hk' := HK.out
          rw [packL_hit HKK.out, List.append_nil, HL.out.2.2] at hk'
          have hR2 : R.2 = F := by rw [hk']
          have hR1 : R.1 = flat J ++ [UInt8.ofNat (192 + k / 256), UInt8.ofNat (k % 256)] := by rw [hk']
          refine ⟨flat J ++ [UInt8.ofNat (192 + k / 256), UInt8.ofNat (k % 256)], A5, Af, c5, cf, p, rfl, by rw [List.length_append, HPE.out]; rfl, by rw [hR2], hid (own_app (O := flat J) (X := [UInt8.ofNat (192 + k / 256), UInt8.ofNat (k % 256)]) rfl (by rw [← HPE.out]; exact o5)), ?_, hid (fun b hb => ?_), hid ?_, by rw [← HSZ.out]; exact hps, .inr ⟨?_, hR1⟩⟩
          · rw [hR2]
            exact hid ((OF.out.ext (ext_alloc _ _)).grown g5 (fun b hb e => AP.out b e.symm hb))
          · rcases new_blk y5 b hb with h1 | h1
            · exact AP.out b h1
            · intro e
              have := (OF.out.lt b e).2
              simp at h1
              omega
          · exact Below.grown (ext_trans XX.out (ext_alloc _ _)) g5 hba (fun b hb => (HW.out.lt b hb).1)
          · rw [HDD.out.2.2.1]
            have := HDD.out.2.1
            rw [bne_iff_ne] at zc
            omega
        | none =>
          rw [place_none hk] at CP1
          have HKK := hid hk
          clear hk
          by_cases hlow : at_ + p < 16384
          · have zl : decide ((at_ : Int) + (p : Int) < 16384) = true := by rw [decide_eq_true_iff]; omega
            have RT := hid (tail_lit wr (wire (s0 :: L)) (at_ + p) ((at_ : Int) + (p : Int)) (by omega))
            have hba : w1.heap.size ≤ (wr.alloc (.cells #[.string (str (wire (s0 :: L))), .int .i64 ((at_ : Int) + (p : Int))] 69)).heap.size := by simp; omega
            have HDS := hid hds
            clear hds
            go_wp2_with fail
            (with_reducible refine CP1.out.mono ?_)
            rintro ee _ ⟨rfl, rfl⟩
            go_wp2_with (at_builtin; first | ((with_reducible show wpList _ _ _ (⟨some 65, _, _, _, _, _⟩ :: _) _ _); go_must (refine wpList_append_g (by rfl) (.tmp 56) (.tmp 64) 52 rfl w1.heap.size 69 j0 (.agg #[.string ⟨#[]⟩, .int .i64 0]) 2 24 Try.underlying52 ji jz0 jz1 jz2 rfl (by decide) zeroQ (fun _ h => h.one) rfl (OF.out.ext (ext_alloc _ _)) rfl RT.out (okQ_cells _) (by omega) (by unfold maxLen; omega) hba ?_; intro A6 c6 w6 o6 g6' y6; have g6 := grown_trans (grown_of_ext (ext_alloc _ _) _) g6'; have W6 := hid (HW.out.grown g6 (fun b hb e => AP.out b hb e.symm)); have O6 := hid o6; have E6 := hid (Below.grown XX.out g6 XX.out.size (fun b hb => (OF.out.lt b hb).1)); have N6 := hid (new_blk y6); have hb6 : w1.heap.size ≤ w6.heap.size := Nat.le_trans XX.out.size g6.size; clear o6 g6 g6' y6)) | ((with_reducible show wpList _ _ _ (⟨some 78, _, _, _, _, _⟩ :: _) _ _); go_must (refine wpList_append_s (by rfl) (.tmp 70) (.tmp 77) 22 9 rfl w1.heap.size 5 i0 Try.underlying22 Try.underlying9 hi hz0 hz1 hz2 rfl W6.out (d :: s0) (by exact congrArg Value.string he2) (by rw [HDS.out]; omega) hb6 ?_; intro A7 c7 w7 o7 g7 y7)))
            have hle : (flat (J ++ [s0])).length = p + 1 + s0.length := by rw [flat_append, flat_one, HPE.out]; simp; omega
            have hfl : flat (J ++ [s0]) = flat J ++ d :: s0 := by rw [flat_append, flat_one, HDD.out.1]
            have hde : d.toNat = s0.length := HDD.out.2.1
            have hpk := HK.out
            rw [packL_new HKK.out, ← HPE.out, if_pos hlow, ← HDD.out.1] at hpk
            have AP6 : ∀ b, blk Ao = some b → blk A6 ≠ some b := fun b hb e => by
              rcases N6.out b e with h1 | h1
              · exact AP.out b hb h1
              · have := (HW.out.lt b hb).2
                simp at h1
                omega
            have L6 : ∀ b, blk A6 = some b → b < w6.heap.size := fun b hb => (O6.out.lt b hb).2
            refine ⟨⟨J ++ [s0], L, A7, A6, c7, c6, F ++ [(wire (s0 :: L), at_ + p)], by rw [HJ.out]; simp, by rw [hle, hde]; simp, congrArg (fun n => Value.slice A7 n c7) (by rw [hle]; first | omega | (simp; omega)), by simp, hid ?_, hid ?_, hid (fun b hb => ?_), hid ?_, hid ?_⟩, ?_⟩
            · unfold BK.Own
              rw [hfl, List.map_append, List.length_append, ← HPE.out]
              exact o7
            · rw [List.length_append, tcells_app]
              exact O6.out.grown g7 (fun b hb e => AP6 b e.symm hb)
            · rcases new_blk y7 b hb with h1 | h1
              · exact AP6 b h1
              · intro e
                have := L6 b e
                omega
            · exact Below.grown E6.out g7 hb6 (fun b hb => (W6.out.lt b hb).1)
            · rw [hpk, hle, hfl]
              simp
            · simp [intOf]
              omega
          · have zl : decide ((at_ : Int) + (p : Int) < 16384) = false := by rw [decide_eq_false_iff_not]; omega
            have HDS := hid hds
            clear hds
            go_wp2_with fail
            (with_reducible refine CP1.out.mono ?_)
            rintro ee _ ⟨rfl, rfl⟩
            go_wp2_with (at_builtin; first | ((with_reducible show wpList _ _ _ (⟨some 78, _, _, _, _, _⟩ :: _) _ _); go_must (refine wpList_append_s (by rfl) (.tmp 70) (.tmp 77) 22 9 rfl w1.heap.size 5 i0 Try.underlying22 Try.underlying9 hi hz0 hz1 hz2 rfl HW.out (d :: s0) (by exact congrArg Value.string he2) (by rw [HDS.out]; omega) hb1 ?_; intro A7 c7 w7 o7 g7 y7)))
            have hle : (flat (J ++ [s0])).length = p + 1 + s0.length := by rw [flat_append, flat_one, HPE.out]; simp; omega
            have hfl : flat (J ++ [s0]) = flat J ++ d :: s0 := by rw [flat_append, flat_one, HDD.out.1]
            have hde : d.toNat = s0.length := HDD.out.2.1
            have hpk := HK.out
            rw [packL_new HKK.out, ← HPE.out, if_neg hlow, ← HDD.out.1] at hpk
            have AP6 : ∀ b, blk Ao = some b → blk Af ≠ some b := AP.out
            have L6 : ∀ b, blk Af = some b → b < wr.heap.size := fun b hb => (OF.out.lt b hb).2
            refine ⟨⟨J ++ [s0], L, A7, Af, c7, cf, F, by rw [HJ.out]; simp, by rw [hle, hde]; simp, congrArg (fun n => Value.slice A7 n c7) (by rw [hle]; first | omega | (simp; omega)), by simp, hid ?_, hid ?_, hid (fun b hb => ?_), hid ?_, hid ?_⟩, ?_⟩
            · unfold BK.Own
              rw [hfl, List.map_append, List.length_append, ← HPE.out]
              exact o7
            · exact OF.out.grown g7 (fun b hb e => AP6 b e.symm hb)
            · rcases new_blk y7 b hb with h1 | h1
              · exact AP6 b h1
              · intro e
                have := L6 b e
                omega
            · exact Below.grown XX.out g7 hb1 (fun b hb => (HW.out.lt b hb).1)
            · rw [hpk, hle, hfl]
              simp
            · simp [intOf]
              omega
  case rest =>
    obtain ⟨O, Ao, Af, co, cf, p, rfl, rfl, rfl, OO, OF, AP, XX, hp, hcase⟩ := hcut
    have PQ := hid (H.out.ext (ext_trans X1.out XX.out))
    obtain ⟨e0, e1, ef⟩ := PQ.out.1.two
    obtain ⟨d, hdd⟩ : ∃ d, d = (wire Ls).getD p 0 := ⟨_, rfl⟩
    have hps : p < s.size := by rw [HSZ.out]; exact hp
    have hpi : (p : Int) < (s.size : Int) := by omega
    have hd : s[p]'hps = d := by
      have h1 : (str (wire Ls)).data[p]? = some ((wire Ls).getD p 0) := str_lt hp
      have h3 : s.data[p]? = some d := by rw [HS.out, h1, hdd]
      exact (Array.getElem?_eq_some_iff.1 h3).2
    rw [← hdd] at hcase
    have hRl : R.1.length ≤ 255 := by
      have := packL_len (T := T) (at_ := at_) Ls 0 HL.out.1
      rw [HL.out.2.2] at this
      have := HL.out.2.1
      omega
    have hR2l : R.2.length ≤ 255 := by
      have := packL_count (T := T) (at_ := at_) Ls 0
      rw [HL.out.2.2] at this
      have h9 := wire_count Ls
      have := HL.out.2.1
      omega
    have hb1 := XX.out.size
    have hw1 := X1.out.size
    have hq1 : q < w.heap.size := H.out.1.lt
    have LA := hid (fun b (hb : blk A = some b) => (show q + 1 ≤ b ∧ b < w.heap.size from H.out.2.lt b hb))
    clear hp hdd d0 d1 df
    rcases hcase with ⟨h0, hR'⟩ | ⟨h0, hR'⟩
    · have z : ((d.toNat : Int) == 0) = true := by rw [h0]; rfl
      have hOl : O.length + 1 = R.1.length := by rw [hR']; simp
      have HR := hid hR'
      clear h0 hR'
      go_wp2_with (at_builtin; first | ((with_reducible show wpList _ _ _ (⟨some 89, _, _, _, _, _⟩ :: _) _ _); go_must (refine wpList_append_1' rfl (.tmp 87) (.tmp 88) 22 rfl w1.heap.size 5 i0 (.int .u8 0) 1 Try.underlying22 hi hz0 hz1 hz2 rfl ⟨0, rfl⟩ (fun _ h => h.one) rfl OO.out (u8v 0) (by rfl) ⟨_, rfl⟩ (by omega) (by unfold maxLen; omega) hb1 ?_; intro AX cX w5 o5 g5 x5 n5; have G5 := hid g5; have Q5 := hid (PQ.out.shy (U := fun x => blk Ao = some x) ((Shy.refl _).grown g5 (fun _ e _ => e)) (fun e => by have := (OO.out.lt q e).1; omega) (fun b hb e => by have h1 := (OO.out.lt b e).1; have h2 := (LA.out b hb).2; omega)); have F5 := hid (OF.out.grown g5 (fun b hb e => AP.out b e.symm hb)); have R5 : Hid (BK.Own w5 w1.heap.size 5 AX cX R.1) := hid (by rw [HR.out]; exact own_app (O := O) (X := [0]) rfl o5); obtain ⟨e0, e1, ef⟩ := Q5.out.1.two; have hbq : q + 1 ≤ w5.heap.size := (by have := g5.size; omega); clear o5 g5 x5 n5)) | ((with_reducible show wpList _ _ _ (⟨some 96, _, _, _, _, _⟩ :: _) _ _); go_must (refine wpList_append_g (by rfl) (.tmp 94) (.tmp 95) 52 rfl (q + 1) 69 j0 (.agg #[.string ⟨#[]⟩, .int .i64 0]) 2 24 Try.underlying52 ji jz0 jz1 jz2 rfl (by decide) zeroQ (fun _ h => h.one) rfl Q5.out.2 rfl F5.out.rd (okQ_cells _) (by omega) (by unfold maxLen; omega) hbq ?_; intro A6 c6 w6 o6 g6 y6; have O6 := hid o6; have N6 := hid (new_blk y6); have B6 := hid (show Blk w6 q 54 #[.slice A T.length c, .int .i64 (e : Int)] from (g6.block q Q5.out.1.lt (fun e => by have := (LA.out q e.symm).1; omega)).trans Q5.out.1); obtain ⟨f0, f1, ff⟩ := B6.out.two; obtain ⟨f0', f1', ff'⟩ := (B6.out.set_ 0 (.slice A6 (T.length + R.2.length) c6)).two; have R6 := hid (R5.out.grown g6 (fun b hb e => by have h1 := (R5.out.lt b hb).1; have h2 := (LA.out b e.symm).2; omega)); clear o6 y6 e0 e1 ef)))
      go_ret2
      have hsh : Shy (fun k => k = q ∨ blk A = some k) w w6 := Shy.grown (Shy.grown (Shy.of_ext (ext_trans X1.out XX.out)) G5.out (fun b hb hlt => by have := (OO.out.lt b hb).1; omega)) g6 (fun b hb _ => .inr hb)
      refine ⟨AX, cX, A6, c6, rfl, ?_, ⟨?_, ?_⟩, fun b hb => ?_, ?_⟩
      · have := (((R6.out.far (p := ⟨q, 0, none⟩) (by simp; omega) (.slice A6 (T.length + R.2.length) c6)).far (p := ⟨q, 1, none⟩) (by simp; omega) (.int .i64 ((at_ : Int) + (R.1.length : Int)))).mono hw1)
        exact this
      · have := (B6.out.set_ 0 (.slice A6 (T.length + R.2.length) c6)).set_ 1 (.int .i64 ((at_ : Int) + (R.1.length : Int)))
        rw [List.length_append, Int.natCast_add]
        simpa using this
      · rw [List.length_append, tcells_app]
        exact (O6.out.far (p := ⟨q, 0, none⟩) (by simp) _).far (p := ⟨q, 1, none⟩) (by simp) _
      · rcases N6.out b hb with h1 | h1
        · exact .inl h1
        · exact .inr (by have := G5.out.size; omega)
      · exact (hsh.grown (grownBy_setAt _ q 0 _) (fun j hj hlt => by cases hj; exact .inl rfl)).grown (grownBy_setAt _ q 1 _) (fun j hj hlt => by cases hj; exact .inl rfl)
    · have z : ((d.toNat : Int) == 0) = false := by rw [beq_eq_false_iff_ne]; omega
      obtain ⟨AX, hAX⟩ : ∃ a, a = Ao := ⟨_, rfl⟩
      obtain ⟨cX, hcX⟩ : ∃ a, a = co := ⟨_, rfl⟩
      have G5 := hid (grown_refl wc (blk Ao))
      have Q5 := PQ
      have F5 := OF
      have R5 : Hid (BK.Own wc w1.heap.size 5 AX cX R.1) := hid (by rw [hR', hAX, hcX]; exact OO.out)
      have hbq : q + 1 ≤ wc.heap.size := by omega
      have hOl : O.length = R.1.length := by rw [hR']
      rw [← hAX, ← hcX]
      clear h0 hAX hcX hR'
      go_wp2_with (at_builtin; first | ((with_reducible show wpList _ _ _ (⟨some 96, _, _, _, _, _⟩ :: _) _ _); go_must (refine wpList_append_g (by rfl) (.tmp 94) (.tmp 95) 52 rfl (q + 1) 69 j0 (.agg #[.string ⟨#[]⟩, .int .i64 0]) 2 24 Try.underlying52 ji jz0 jz1 jz2 rfl (by decide) zeroQ (fun _ h => h.one) rfl Q5.out.2 rfl F5.out.rd (okQ_cells _) (by omega) (by unfold maxLen; omega) hbq ?_; intro A6 c6 w6 o6 g6 y6; have O6 := hid o6; have N6 := hid (new_blk y6); have B6 := hid (show Blk w6 q 54 #[.slice A T.length c, .int .i64 (e : Int)] from (g6.block q Q5.out.1.lt (fun e => by have := (LA.out q e.symm).1; omega)).trans Q5.out.1); obtain ⟨f0, f1, ff⟩ := B6.out.two; obtain ⟨f0', f1', ff'⟩ := (B6.out.set_ 0 (.slice A6 (T.length + R.2.length) c6)).two; have R6 := hid (R5.out.grown g6 (fun b hb e => by have h1 := (R5.out.lt b hb).1; have h2 := (LA.out b e.symm).2; omega)); clear o6 y6 e0 e1 ef)))
      go_ret2
      have hsh : Shy (fun k => k = q ∨ blk A = some k) w w6 := Shy.grown (Shy.grown (Shy.of_ext (ext_trans X1.out XX.out)) G5.out (fun b hb hlt => by have := (OO.out.lt b hb).1; omega)) g6 (fun b hb _ => .inr hb)
      refine ⟨AX, cX, A6, c6, rfl, ?_, ⟨?_, ?_⟩, fun b hb => ?_, ?_⟩
      · have := (((R6.out.far (p := ⟨q, 0, none⟩) (by simp; omega) (.slice A6 (T.length + R.2.length) c6)).far (p := ⟨q, 1, none⟩) (by simp; omega) (.int .i64 ((at_ : Int) + (R.1.length : Int)))).mono hw1)
        exact this
      · have := (B6.out.set_ 0 (.slice A6 (T.length + R.2.length) c6)).set_ 1 (.int .i64 ((at_ : Int) + (R.1.length : Int)))
        rw [List.length_append, Int.natCast_add]
        simpa using this
      · rw [List.length_append, tcells_app]
        exact (O6.out.far (p := ⟨q, 0, none⟩) (by simp) _).far (p := ⟨q, 1, none⟩) (by simp) _
      · rcases N6.out b hb with h1 | h1
        · exact .inl h1
        · exact .inr (by have := G5.out.size; omega)
      · exact (hsh.grown (grownBy_setAt _ q 0 _) (fun j hj hlt => by cases hj; exact .inl rfl)).grown (grownBy_setAt _ q 1 _) (fun j hj hlt => by cases hj; exact .inl rfl)
end Go.Proofs.Ytfimfmghfjokjaa

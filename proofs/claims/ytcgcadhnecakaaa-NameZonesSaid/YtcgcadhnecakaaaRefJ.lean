/- The document's Join. -/
import Derived.Test.YtcgcadhnecakaaaNamJ
import Derived.Test.YtcgcadhnecakaaaRefA
import Derived.Deep.RegionHeld3
import Derived.IntWalk
namespace Go.Proofs.Ytcgcadhnecakaaa
open Go.BK Go.RowKit Go.BK.NM
set_option linter.unusedVariables false

theorem str_app (a b : List UInt8) : str a ++ str b = str (a ++ b) := by apply ByteArray.ext; simp [str, ByteArray.data_append]
/-- What is told of the labels so far: all, or enough to be too long. -/
def JoinK (J K : List Bs) : Prop := okL J ∧ (flat K).length ≤ 400 ∧ (K = J ∨ (255 < (flat K).length ∧ (flat K).length ≤ (flat J).length))

set_option maxHeartbeats 4000000 in
set_option maxRecDepth 100000 in
theorem ref_join {w : World} {A : Option Addr} {c : Nat} {L : List Bs} (h : RdG w 1 A L.length c (L.map strV)) (hb : ∀ s ∈ L, s.length ≤ 2000000) :
    Calls Try.prog 14 #[.slice A L.length c] w fun e w' => e = .returned (.tuple #[.string (str (joinS L).1), .int .i64 (joinS L).2]) ∧ Ext w w' := by
  have HR := hid h
  have HB := hid hb
  have hn9 := h.n_le
  have hc9 := h.c_le
  have hnc := h.cap.1
  obtain ⟨V, hV⟩ : ∃ V, V = joinS L := ⟨_, rfl⟩
  rw [← hV]
  have HV := hid hV
  clear h hb hV
  go_enter Try.func14, Try.ntmps14
  go_wp2_with fail
  go_loopw [4, 5] (fun o i wr => ∃ (k : Nat) (K : List Bs), k ≤ L.length ∧ i = .int .i64 k ∧ o = .string (str (flat K)) ∧ Hid (JoinK (L.take k) K) ∧ Hid (Ext w wr)) (fun _ i _ => L.length - (intOf i).toNat)
  case atStart => exact ⟨0, [], Nat.zero_le _, rfl, rfl, hid ⟨fun s hs => by simp at hs, by simp [flat], .inl (by simp)⟩, hid (ext_refl _)⟩
  case round =>
    obtain ⟨k, K, hk, rfl, rfl, HK, XX⟩ := hrel
    by_cases hlt : k < L.length
    · obtain ⟨b, o, rfl, hb, hc⟩ := RdG.text (HR.out.ext XX.out) hlt
      obtain ⟨s, hs⟩ : ∃ s, s = L.getD k [] := ⟨_, rfl⟩
      rw [← hs] at hc
      have hsm : s ∈ L := by rw [hs, List.getD_eq_getElem?_getD, List.getElem?_eq_getElem hlt]; exact List.getElem_mem hlt
      have hsl := HB.out s hsm
      have hdr : L = L.take k ++ s :: L.drop (k + 1) := by
        rw [hs, List.getD_eq_getElem?_getD, List.getElem?_eq_getElem hlt]
        simp
      have HD := hid hdr
      have hke : L.take (k + 1) = L.take k ++ [s] := by
        rw [List.take_add_one, hs, List.getD_eq_getElem?_getD, List.getElem?_eq_getElem hlt]
        rfl
      have HKE := hid hke
      clear hke
      have hi1 : (k : Int) < (L.length : Int) := by omega
      obtain ⟨ts, hts⟩ : ∃ ts, ts = str s := ⟨_, rfl⟩
      rw [← hts] at hc
      have htz : ts.size = s.length := by rw [hts, str_size]
      have HTS := hid hts
      clear hs hsm hdr
      by_cases h1 : s = []
      · have hv : V = ([], 2) := by
          rw [HV.out, HD.out]
          exact join_bad HK.out.1 (by simp [joinE, h1]) (by decide)
        have z1 : (ts.toList == []) = true := by rw [hts, str_toList, h1]; rfl
        have z1' : ts.toList.isEmpty = true := by rw [hts, str_toList, h1]; rfl
        clear hts htz
        go_wp2_with fail
        go_ret2
        rw [hv]
        exact ⟨rfl, XX.out⟩
      · have hs1 : 1 ≤ s.length := by rcases s with _ | _ <;> simp_all
        have z1 : (ts.toList == []) = false := by rw [hts, str_toList]; simpa using h1
        have z1' : ts.toList.isEmpty = false := by rw [hts, str_toList]; simpa using h1
        by_cases h63 : 63 < s.length
        · have hv : V = ([], 3) := by
            rw [HV.out, HD.out]
            exact join_bad HK.out.1 (by simp [joinE, h1, h63]) (by decide)
          have z2 : decide ((63 : Int) < (ts.size : Int)) = true := by rw [decide_eq_true_iff]; omega
          have z2' : decide (63 < ts.size) = true := by rw [decide_eq_true_iff]; omega
          clear hts htz h1
          go_wp2_with fail
          go_ret2
          rw [hv]
          exact ⟨rfl, XX.out⟩
        · have z2 : decide ((63 : Int) < (ts.size : Int)) = false := by rw [decide_eq_false_iff_not]; omega
          have z2' : decide (63 < ts.size) = false := by rw [decide_eq_false_iff_not]; omega
          have hok : okL (L.take (k + 1)) := by
            rw [HKE.out]
            intro x hx
            rcases List.mem_append.1 hx with hx | hx
            · exact HK.out.1 x hx
            · rw [List.mem_singleton] at hx; subst hx; omega
          have HOK := hid hok
          have hfl : flat (L.take (k + 1)) = flat (L.take k) ++ (UInt8.ofNat s.length :: s) := by rw [HKE.out, flat_snoc]
          have HFL := hid hfl
          obtain ⟨to, hto⟩ : ∃ t, t = str (flat K) := ⟨_, rfl⟩
          have htoz : to.size = (flat K).length := by rw [hto, str_size]
          rw [← hto]
          have HTO := hid hto
          have HTZ := hid htoz
          by_cases hK : 255 < (flat K).length
          · have z3 : decide ((to.size : Int) ≤ 255) = false := by rw [decide_eq_false_iff_not]; omega
            have z3' : decide (to.size ≤ 255) = false := by rw [decide_eq_false_iff_not]; omega
            clear hto htoz hfl hok hts htz h1 h63
            go_wp2_with fail
            refine ⟨⟨k + 1, K, by omega, by go_num, by rw [HTO.out], hid ⟨HOK.out, HK.out.2.1, .inr ⟨hK, ?_⟩⟩, XX⟩, by simp [intOf]; omega⟩
            rw [HFL.out, List.length_append]
            rcases HK.out.2.2 with e | ⟨_, e⟩
            · rw [← e]; omega
            · omega
          · have z3 : decide ((to.size : Int) ≤ 255) = true := by rw [decide_eq_true_iff]; omega
            have z3' : decide (to.size ≤ 255) = true := by rw [decide_eq_true_iff]; omega
            have hKJ : K = L.take k := by rcases HK.out.2.2 with e | ⟨e, _⟩; exact e; omega
            have HKJ := hid hKJ
            obtain ⟨cu, hcu⟩ : ∃ cu, cu = UInt8.ofNat s.length := ⟨_, rfl⟩
            have hcn : (ts.size : Int) = (cu.toNat : Int) := by rw [hcu, UInt8.toNat_ofNat', htz]; omega
            have hwu : IntKind.u8.wrap (ts.size : Int) = (cu.toNat : Int) := by rw [← hcn]; show (ts.size : Int) % 256 = _; omega
            have HCU := hid hcu
            have hcv : (convert 53 9 (.slice (some ⟨wr.heap.size, 0, none⟩) 1 1)).run Try.prog ((wr.alloc (.cells #[.int .u8 cu.toNat] 5)).drew) = .ok (.string (str [cu])) ((wr.alloc (.cells #[.int .u8 cu.toNat] 5)).drew) :=
              run_convert_rd (l := [cu]) ((Own.lit_at wr _ [cu] 5 _ (by simp) rfl (by simp [maxLen])).rd.ext (ext_drew _)) 53 5 Try.underlying53 Try.underlying5 9 Try.underlying9
            have y1 : to.size ≤ 255 := by omega
            have y2 : ts.size ≤ 63 := by omega
            have y3 : (str [cu]).size = 1 := by rw [str_size]; rfl
            have hc2 : ((wr.alloc (.cells #[.int .u8 cu.toNat] 5)).drew).cell? ⟨b, o + k, none⟩ = some (.string ts) := ((ext_trans (ext_alloc wr _) (ext_drew _)).cell (p := ⟨b, o + k, none⟩) hb).trans hc
            clear hto htoz hfl hok hts htz h1 h63 hcn hcu hK hKJ
            go_wp2_with fail
            go_region
            all_goals
              go_wp2_with fail
              refine ⟨⟨k + 1, L.take (k + 1), by omega, by go_num, ?_, hid ⟨HOK.out, ?_, .inl rfl⟩, hid (ext_trans XX.out (ext_trans (ext_alloc _ _) (ext_drew _)))⟩, by simp [intOf]; omega⟩
              · rw [HTO.out, HTS.out, str_app, str_app, HFL.out, ← HKJ.out, HCU.out, List.append_assoc]
                rfl
              · have q1 := HTZ.out
                have q2 := HTS.out
                rw [HFL.out, ← HKJ.out, List.length_append, List.length_cons]
                have q3 : ts.size = s.length := by rw [q2, str_size]
                omega
    · obtain rfl : k = L.length := by omega
      have hk2 := HK.out
      rw [List.take_length] at hk2
      obtain ⟨hok, hKl, hKK⟩ := hk2
      obtain ⟨to, hto⟩ : ∃ t, t = str (flat K) := ⟨_, rfl⟩
      obtain ⟨t2, ht2⟩ : ∃ t, t = str (flat K ++ [0]) := ⟨_, rfl⟩
      have hap : to ++ (⟨#[0]⟩ : ByteArray) = t2 := by
        rw [hto, ht2, ← str_app]; rfl
      have htz : t2.size = (flat K).length + 1 := by rw [ht2, str_size]; simp
      have htoz : to.size ≤ 400 := by rw [hto, str_size]; exact hKl
      have hwl : (wire L).length = (flat L).length + 1 := by rw [wire_flat]; simp
      have hj : V = if 255 < (wire L).length then ([], 3) else (wire L, 0) := by rw [HV.out]; unfold joinS; rw [if_pos (joinE_ok.2 hok)]
      rw [← hto]
      by_cases h255 : 255 < t2.size
      · have hv : V = ([], 3) := by
          rw [hj, if_pos]
          rcases hKK with e | ⟨_, e⟩
          · rw [← e]; rw [← e] at hwl; omega
          · omega
        have z : decide ((255 : Int) < (t2.size : Int)) = true := by rw [decide_eq_true_iff]; omega
        have z' : decide (255 < t2.size) = true := by rw [decide_eq_true_iff]; omega
        have t29 : t2.size ≤ 401 := by omega
        clear hto ht2 htz hwl hj hKK hok hKl HK hlt hk
        go_wp2_with fail
        go_ret2
        rw [hv]
        exact ⟨rfl, XX.out⟩
      · have hKL : K = L := by
          rcases hKK with e | ⟨e, _⟩
          · exact e
          · omega
        have hv : V = (wire L, 0) := by
          rw [hj, if_neg]
          rw [← hKL] at hwl ⊢
          omega
        have ht : t2 = str (wire L) := by rw [ht2, hKL, wire_flat]
        have HT := hid ht
        have z : decide ((255 : Int) < (t2.size : Int)) = false := by rw [decide_eq_false_iff_not]; omega
        have z' : decide (255 < t2.size) = false := by rw [decide_eq_false_iff_not]; omega
        clear hto ht2 htz hwl hj hKK hok hKl HK hlt hk ht hKL
        go_wp2_with fail
        go_ret2
        rw [hv, HT.out]
        exact ⟨rfl, XX.out⟩
end Go.Proofs.Ytcgcadhnecakaaa

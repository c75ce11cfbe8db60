/- Layer 11: numbers. -/
import Derived.Test.YtgcdpkjohaplcaaBasT
namespace Go.Proofs.Ytgcdpkjohaplcaa
open Go.BK Go.RowKit
set_option linter.unusedVariables false
set_option maxHeartbeats 2000000 in
set_option maxRecDepth 100000 in
theorem numbers_any (w : World) :
    Calls Try.prog 21 #[] w fun e w' => e = .returned (.agg (tabZ (tabB 64))) ∧ Ext w w' := by
  have z1 := zero_tab
  go_enter Try.func21, Try.ntmps21
  go_wp2_with fail
  go_loopw [5] (fun i wr => ∃ k : Nat, k ≤ 256 ∧ i = .int .i64 k ∧ Blk wr w.heap.size 39 (tabZ (tabA 0)) ∧ Blk wr (w.heap.size + 1) 39 (tabZ (tabA k)) ∧ Below w.heap.size w wr) (fun i _ => 256 - (intOf i).toNat)
  case atStart => exact ⟨0, Nat.zero_le _, rfl, (Blk.new _ _ _).alloc _, by simpa using Blk.new (w.alloc (.cells (tabZ (tabA 0)) 39)) 39 (tabZ (tabA 0)), ((Below.refl _ _).alloc (Nat.le_refl _) _).alloc (by simp) _⟩
  case round =>
    obtain ⟨k, hk, rfl, B0, B1, bw⟩ := hrel
    by_cases hlt : k < 256
    · have c1 : wr.cell? ⟨w.heap.size + 1, k, none⟩ = some (.int .u8 ((tabA k).getD k 0).toNat) := by rw [B1.cell k, tabZ_get _ _ (by rw [tabA_len hk]; exact hlt)]
      have f1 := B1.frozen k
      have B0 := hid (B0.far (p := ⟨w.heap.size + 1, k, none⟩) (by simp) (.int .u8 255))
      have B1' := blk_setL B1 k 255
      rw [tabA_set hlt] at B1'
      have B1 := hid B1'
      have bw := hid (bw.setCell (p := ⟨w.heap.size + 1, k, none⟩) (by simp) (.int .u8 255))
      clear B1'
      go_wp2_with fail
      go_roundw
      case rel => exact ⟨k + 1, by omega, by go_num, B0.out, B1.out, bw.out⟩
      case measure => simp [intOf]; omega
    · obtain rfl : k = 256 := by omega
      rw [tabB_zero] at B1
      obtain ⟨wo, hwo⟩ : ∃ wo, wo = wr := ⟨_, rfl⟩
      subst hwo
      have hsz := bw.size
      have hsz2 := B1.lt
      have HB0 := hid B0
      have HB1 := hid B1
      have HW := hid bw
      clear B0 B1 bw
      go_wp2_with fail
      go_loopw [3] (fun _ wr => ∃ i : Nat, i ≤ 64 ∧ wr.heap[wo.heap.size]? = some (.stringIter letS i) ∧ Blk wr w.heap.size 39 (tabZ (tabA 0)) ∧ Blk wr (w.heap.size + 1) 39 (tabZ (tabB i)) ∧ Below w.heap.size w wr) (fun _ wr => 64 - wr.iterPos wo.heap.size)
      case atStart => exact ⟨0, Nat.zero_le _, World.iter_heap wo letS 0, HB0.out.alloc _, HB1.out.alloc _, HW.out.alloc (by omega) _⟩
      case round =>
        obtain ⟨i, hi, hit, B0, B1, bw⟩ := hrel
        have hpos : wr.iterPos wo.heap.size = i := iterPos_of hit
        by_cases hlt : i < 64
        · obtain ⟨hg1, hg2⟩ := letS_get i (by rw [letS_size]; exact hlt)
          have hnx := fun ty => Lib.run_next_ascii_at (P := Try.prog) wr wo.heap.size letS i ty hit (by rw [letS_size]; exact hlt) hg2
          rw [hg1] at hnx hg2
          obtain ⟨wi, hwi⟩ : ∃ wi, wi = wr.iterAt wo.heap.size letS (i + 1) := ⟨_, rfl⟩
          obtain ⟨c, hc⟩ : ∃ c : Nat, c = (BM.letN i).toNat := ⟨_, rfl⟩
          rw [← hc] at hg2
          have hnx2 : ∀ ty, (Instr.next (.pointer (some ⟨wo.heap.size, 0, none⟩)) true ty).run Try.prog wr = .ok (.tuple #[.bool true, .int .i64 i, .int .i32 c]) wi := by
            intro ty; rw [hnx ty, hwi, hc]
          have hst := tabB_set i hlt
          rw [← hc] at hst
          have it2 : wi.heap[wo.heap.size]? = some (.stringIter letS (i + 1)) := by rw [hwi]; exact Lib.iterAt_heap _ _ _ _ _ hit
          have B0' : Blk wi w.heap.size 39 (tabZ (tabA 0)) := by rw [hwi]; exact (Lib.iterAt_other _ _ _ _ _ (by omega)).trans B0
          have B1' : Blk wi (w.heap.size + 1) 39 (tabZ (tabB i)) := by rw [hwi]; exact (Lib.iterAt_other _ _ _ _ _ (by omega)).trans B1
          have bw' : Below w.heap.size w wi := by rw [hwi]; exact Lib.below_iterAt bw (by omega) _ _
          have c1 : wi.cell? ⟨w.heap.size + 1, c, none⟩ = some (.int .u8 ((tabB i).getD c 0).toNat) := by rw [B1'.cell c, tabZ_get _ _ (by rw [tabB_len]; omega)]
          have f1 := B1'.frozen c
          have hi8 : ((UInt8.ofNat i).toNat : Int) = i := by rw [BM.u8_of i (by omega)]
          have B1s := blk_setL B1' c (UInt8.ofNat i)
          rw [hst, hi8] at B1s
          have B0 := hid (B0'.far (p := ⟨w.heap.size + 1, c, none⟩) (by simp) (.int .u8 i))
          have B1 := hid B1s
          have bw := hid (bw'.setCell (p := ⟨w.heap.size + 1, c, none⟩) (by simp) (.int .u8 i))
          have it3 : (wi.setCell ⟨w.heap.size + 1, c, none⟩ (.int .u8 i)).heap[wo.heap.size]? = some (.stringIter letS (i + 1)) := (Below.heap_setCell wi _ _ _ (by simp; omega)).trans it2
          have hp2 : (wi.setCell ⟨w.heap.size + 1, c, none⟩ (.int .u8 i)).iterPos wo.heap.size = i + 1 := iterPos_of it3
          have IT := hid it3
          have HP := hid hp2
          have HPO := hid hpos
          clear hwi hc hnx hst it2 B0' B1' bw' B1s hi8 it3 hp2 hpos hg1 hit
          go_wp2_with fail
          go_roundw
          case rel => exact ⟨i + 1, by omega, IT.out, B0.out, B1.out, bw.out⟩
          case measure => rw [HP.out, HPO.out]; omega
        · obtain rfl : i = 64 := by omega
          have hnx := fun ty => Lib.run_next_end_at (P := Try.prog) wr wo.heap.size letS 64 ty hit (by rw [letS_size]; omega)
          have B2 := blk_setAll B0 (tabZ (tabB 64)).toList (by rw [Array.length_toList, tabZ_size, tabZ_size, tabB_len, tabA_len (by omega)])
          have hth := blk_there B0 (tabZ (tabB 64)).size (by rw [tabZ_size, tabZ_size, tabB_len, tabA_len (by omega)]; exact Nat.le_refl _)
          have hsh := (shy_setCells w.heap.size (tabZ (tabB 64)).toList 0 wr).below (B := w.heap.size) bw.size (fun k hk => by omega)
          have B2 := hid B2
          have H1 := hid B1
          have hth := hid hth
          have hsh := hid hsh
          clear hpos hit B0 B1
          go_wp2_with (first | ((with_reducible show wpList _ _ _ (⟨some 21, _, _, _, _, _⟩ :: _) _ _); go_must (refine wpList_load_row rfl 39 (.tmp 1) rfl (w.heap.size + 1) (by rfl) 39 (tabZ (tabB 64)) (0, 0) _ H1.out Try.underlying39 rfl (by rw [tabZ_size, tabB_len]; kernel_rfl) ?_)) | (refine wpList_store_mid rfl 39 (.tmp 0) (.tmp 21) rfl w.heap.size 0 (tabZ (tabB 64)) (by rfl) (by rfl) hth.out (by rw [tabZ_size, tabB_len]; kernel_rfl) (tab_one _) ?_))
          refine bodyPost_ret (results_cell_row Try.results21 _ _ w.heap.size 39 (tabZ (tabB 64)) (0, 0) _ (by rfl) (by simpa [Blk] using B2.out) Try.underlying39 rfl (by rw [tabZ_size, tabB_len]; kernel_rfl)) rfl ?_
          exact ⟨rfl, Below.trans bw hsh.out⟩
end Go.Proofs.Ytgcdpkjohaplcaa

/- Layer 11: what is told is read, and what is read is told: the plain law. -/
import Derived.Test.YtgcdpkjohaplcaaBasP
namespace Go.Proofs.Ytgcdpkjohaplcaa
open Go.BK Go.RowKit
set_option linter.unusedVariables false
def encL (l : List UInt8) : List UInt8 := (BM.encD l).map BM.letN
theorem encT_eq (l : List UInt8) : encT l = str (encL l) := rfl
theorem encL_len (l : List UInt8) : (encL l).length = (8 * l.length + 5) / 6 := by unfold encL; rw [List.length_map, BM.encD_len]
theorem digs_enc (l : List UInt8) : digs (encL l) = BM.encD l := by
  unfold digs encL
  rw [List.map_map]
  conv => rhs; rw [← List.map_id (BM.encD l)]
  apply List.map_congr_left
  intro d hd
  exact BM.num_let d (BM.encD_lt l d hd)
theorem digs_len (l : List UInt8) : (digs l).length = l.length := by simp [digs]
theorem decR_of {l O : List UInt8} (h : BM.decD (digs l) = some O) (hlt : ∀ d ∈ digs l, d < 64) : decR l = (O, 0, 0) := by
  obtain ⟨_, h2, h3, _⟩ := BM.decS_eq (digs l) hlt
  rw [digs_len] at h2 h3
  have hok : OkTo l l.length := by
    intro j c hj hc
    rw [List.getElem?_eq_getElem hj] at hc
    injection hc with hc
    refine hlt _ (List.mem_map.2 ⟨c, ?_, rfl⟩)
    rw [← hc]; exact List.getElem_mem hj
  have h4 : ¬ l.length % 4 = 1 := fun e => by rw [h2 e] at h; cases h
  have h5 := h3 h4
  rw [h] at h5
  unfold decR
  rw [if_neg (badAt_no hok), if_neg h4]
  split at h5
  · next e => injection h5 with h5; rw [if_neg (by simpa using e), h5]
  · cases h5
theorem decR_enc (l : List UInt8) : decR (encL l) = (l, 0, 0) := by
  refine decR_of ?_ ?_
  · rw [digs_enc, BM.dec_enc]
  · rw [digs_enc]; exact BM.encD_lt l
theorem decR_cases (l : List UInt8) : (∃ O, decR l = (O, 0, 0) ∧ encL O = l) ∨ ∃ a : Int, decR l = ([], 4, a) ∧ 0 ≤ a ∧ a ≤ l.length := by
  by_cases hb : badAt l < l.length
  · exact .inr ⟨badAt l, by unfold decR; rw [if_pos hb], by omega, by omega⟩
  have hok : ∀ c ∈ l, BM.numN c < 64 := by
    intro c hc
    rcases BM.num_ok c with h | h
    · exact h.1
    · exact absurd (List.findIdx_lt_length_of_exists (p := fun c => BM.numN c == 255) ⟨c, hc, by simp [h]⟩) hb
  have hlt : ∀ d ∈ digs l, d < 64 := by
    intro d hd; obtain ⟨c, hc, rfl⟩ := List.mem_map.1 hd; exact hok c hc
  by_cases h4 : l.length % 4 = 1
  · exact .inr ⟨l.length, by unfold decR; rw [if_neg hb, if_pos h4], by omega, by omega⟩
  obtain ⟨_, h2, h3, _⟩ := BM.decS_eq (digs l) hlt
  rw [digs_len] at h2 h3
  by_cases hn : (BM.decS 0 0 (digs l)).2.2 = 0
  · have h5 := h3 h4
    rw [if_pos hn] at h5
    refine .inl ⟨_, by unfold decR; rw [if_neg hb, if_neg h4, if_neg (by simpa using hn)], ?_⟩
    have := BM.enc_dec _ _ h5 hlt
    unfold encL
    rw [this]
    unfold digs
    rw [List.map_map]
    conv => rhs; rw [← List.map_id l]
    apply List.map_congr_left
    intro c hc
    rcases BM.num_ok c with h | h
    · exact h.2
    · have := hok c hc; omega
  · refine .inr ⟨(l.length : Int) - 1, by unfold decR; rw [if_neg hb, if_neg h4, if_pos hn], ?_, by omega⟩
    rcases l with _ | ⟨c, l⟩
    · simp [digs, BM.decS] at hn
    · simp
theorem sizeS_enc (l : List UInt8) (n : Int) (h : n = ((encL l).length : Int)) : sizeS n = ((l.length : Int), true) := by
  have e := encL_len l
  have h2 : n = ((8 * l.length + 5) / 6 : Nat) := by rw [h, e]
  clear h e
  have h3 : ¬ (n < 0 ∨ n % 4 = 1) := by omega
  unfold sizeS
  rw [if_neg h3]
  congr 1
  omega
end Go.Proofs.Ytgcdpkjohaplcaa

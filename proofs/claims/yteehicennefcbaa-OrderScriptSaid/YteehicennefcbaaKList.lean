/- SameLists: lists of lists of bytes. -/
import Derived.Test.YteehicennefcbaaKSame
import Derived.Deep.QuietTactic
namespace Go.BK
open Go.RowKit
/-- A slice of bytes: its address, its capacity, what it reads as. -/
abbrev Sl := Option Addr × Nat × List UInt8
abbrev slv (x : Sl) : Value := .slice x.1 x.2.2.length x.2.1
/-- A slice of slices that reads as lists of bytes. -/
def RdL (w : World) (A : Option Addr) (n c : Nat) (L : List (List UInt8)) : Prop :=
  ∃ S : List Sl, RdG w 1 A n c (S.map slv) ∧ (∀ x ∈ S, Rd w x.1 x.2.1 x.2.2) ∧ S.map (·.2.2) = L
theorem RdL.ext {w w' : World} {A : Option Addr} {n c : Nat} {L : List (List UInt8)} (h : RdL w A n c L) (e : Ext w w') : RdL w' A n c L := by
  obtain ⟨S, h1, h2, h3⟩ := h
  exact ⟨S, h1.ext e, fun x hx => (h2 x hx).ext e, h3⟩
theorem RdL.len {w : World} {A : Option Addr} {n c : Nat} {L : List (List UInt8)} (h : RdL w A n c L) : n = L.length := by
  obtain ⟨S, h1, h2, rfl⟩ := h
  have := h1.1
  simp at this ⊢
  omega
theorem RdL.none_ (w : World) : RdL w none 0 0 [] := ⟨[], RdG.none_ w 1, by simp, rfl⟩
theorem RdL.at_ {w : World} {A : Option Addr} {n c : Nat} {L : List (List UInt8)} (h : RdL w A n c L) {k : Nat} (hk : k < n) :
    ∃ b o A' c', A = some ⟨b, o, none⟩ ∧ b < w.heap.size ∧ w.cell? ⟨b, o + k, none⟩ = some (.slice A' (L.getD k []).length c') ∧ Rd w A' c' (L.getD k []) := by
  obtain ⟨S, h1, h2, h3⟩ := h
  have hl : k < S.length := by have := h1.1; simp at this; omega
  obtain ⟨b, o, hA, hb, hc⟩ := h1.at_ hk
  have e : (S.map slv).getD k undef = slv S[k] := by simp [hl]
  rw [e] at hc
  have e2 : L.getD k [] = S[k].2.2 := by rw [← h3]; simp [hl]
  rw [e2]
  exact ⟨b, o, S[k].1, S[k].2.1, hA, hb, hc, h2 _ (List.getElem_mem hl)⟩
/-- All its cells, at one address. -/
theorem RdL.n_le {w : World} {A : Option Addr} {n c : Nat} {L : List (List UInt8)} (h : RdL w A n c L) : n ≤ 9223372036854775807 := by
  obtain ⟨S, h1, _⟩ := h; exact h1.n_le
theorem RdG.lit_at (w : World) (g : Nat) (vs : List Value) (e : TypeId) (arr : Array Value) (hg : g = w.heap.size) (h : arr = vs.toArray) (hc : vs.length ≤ maxLen) :
    RdG (w.alloc (.cells arr e)) 1 (some ⟨g, 0, none⟩) vs.length vs.length vs := by
  subst hg; subst h
  have := OwnG.new (ok := fun _ => True) (base := 0) (size := 1) (e := e) w vs vs.length vs.length (Nat.zero_le _) (by simp) (Nat.le_refl _) hc (fun _ _ => trivial)
  simpa using this.rd
/-- '[][]byte{{a}, {b}}' -/
theorem RdL.lit2 (w : World) (a b : UInt8) (e f : TypeId) (x y : Value) (hx : x = u8v a) (hy : y = u8v b) :
    RdL (((w.alloc (.cells #[x] e)).alloc (.cells #[y] e)).alloc (.cells #[.slice (some ⟨w.heap.size, 0, none⟩) 1 1, .slice (some ⟨w.heap.size + 1, 0, none⟩) 1 1] f)) (some ⟨w.heap.size + 1 + 1, 0, none⟩) 2 2 [[a], [b]] := by
  subst hx; subst hy
  have h1 := ((Own.lit_at w w.heap.size [a] e #[u8v a] rfl rfl (by simp [maxLen])).rd.ext (ext_alloc _ (.cells #[u8v b] e)))
  have h2 := (Own.lit_at (w.alloc (.cells #[u8v a] e)) (w.heap.size + 1) [b] e #[u8v b] (by simp) rfl (by simp [maxLen])).rd
  refine ⟨[(some ⟨w.heap.size, 0, none⟩, 1, [a]), (some ⟨w.heap.size + 1, 0, none⟩, 1, [b])], RdG.lit_at _ _ [.slice (some ⟨w.heap.size, 0, none⟩) 1 1, .slice (some ⟨w.heap.size + 1, 0, none⟩) 1 1] f _ (by simp) rfl (by simp [maxLen]), ?_, rfl⟩
  intro x hx
  simp only [List.mem_cons, List.not_mem_nil, or_false] at hx
  rcases hx with rfl | rfl
  · exact h1.ext (ext_alloc _ _)
  · exact h2.ext (ext_alloc _ _)
theorem Rd.nil (w : World) : Rd w none 0 [] := RdG.none_ w 1
end Go.BK
namespace Go.Proofs.Yteehicennefcbaa
open Go.BK Go.RowKit
set_option linter.unusedVariables false


theorem drop_eq (L M : List (List UInt8)) (k : Nat) (h1 : k < L.length) (h2 : k < M.length) : (L.drop k == M.drop k) = ((L.getD k [] == M.getD k []) && (L.drop (k + 1) == M.drop (k + 1))) := by
  rw [List.drop_eq_getElem_cons h1, List.drop_eq_getElem_cons h2, show L.getD k [] = L[k] by simp [h1], show M.getD k [] = M[k] by simp [h2]]
  rfl

set_option maxHeartbeats 1000000 in
theorem same_lists {A B : Option Addr} {n m ca cb : Nat} {L M : List (List UInt8)} {w : World} (ha : RdL w A n ca L) (hb : RdL w B m cb M) :
    Calls Try.prog 21 #[.slice A n ca, .slice B m cb] w fun e w' => e = .returned (.bool (L == M)) ∧ ∃ d, w' = w.drewN d := by
  have hn := ha.len
  have hm := hb.len
  have hn1 := ha.n_le
  have hm1 := hb.n_le
  by_cases hne : n = m
  · subst hne
    have hll : L.length = M.length := by omega
    have HLL := hid hll
    have HN := hid hn
    have HM := hid hm
    clear hll hn hm
    go_enter Try.func21, Try.ntmps21
    go_wp2
    go_loopw [5] (fun i wr => ∃ k d : Nat, k ≤ n ∧ i = .int .i64 k ∧ wr = w.drewN d ∧ (L == M) = (L.drop k == M.drop k)) (fun i _ => n - (intOf i).toNat)
    case atStart => exact ⟨0, 0, Nat.zero_le _, rfl, rfl, rfl⟩
    case round =>
      obtain ⟨k, d, hk, rfl, hwr, hrest⟩ := hrel
      have ha := hwr ▸ ha.ext (ext_drewN w d)
      have hb := hwr ▸ hb.ext (ext_drewN w d)
      have HD := hid hwr
      clear hwr
      by_cases hlt : k < n
      · obtain ⟨b1, o1, A1, c1, rfl, hb1, g1, rd1⟩ := ha.at_ hlt
        obtain ⟨b2, o2, A2, c2, rfl, hb2, g2, rd2⟩ := hb.at_ hlt
        have hstep := drop_eq L M k (by have := HN.out; omega) (by have := HM.out; omega)
        rw [hstep] at hrest
        generalize hx : L.getD k [] = x1 at *
        generalize hy : M.getD k [] = x2 at *
        have hq := hid (fun d' => same_bytes (rd1.ext (ext_drewN _ d')) (rd2.ext (ext_drewN _ d')))
        have HR := hid hrest
        clear rd1 rd2 hx hy hstep ha hb hrest
        cases hxy : (x1 == x2) with
        | true =>
          rw [hxy] at hq HR
          clear hxy
          go_wp2_with fail
          go_quiet ((go_at_call 14; exact quiet_sym (hq.out _)))
          go_wp2_with fail
          go_roundw
          case rel => exact ⟨k + 1, d + nq, by omega, by go_num, by rw [HD.out]; exact World.drewN_drewN w d nq, by rw [HR.out]; simp⟩
          case measure => simp [intOf]; omega
        | false =>
          rw [hxy] at hq HR
          clear hxy
          go_wp2_with fail
          go_quiet ((go_at_call 14; exact quiet_sym (hq.out _)))
          go_wp2_with fail
          go_ret
          exact ⟨ret_bool (by rw [HR.out]; simp), d + nq, by rw [HD.out]; exact World.drewN_drewN w d nq⟩
      · have hke : k = n := by omega
        subst hke
        have e : (L == M) = true := by
          have h1 := HN.out
          have h2 := HM.out
          rw [hrest, List.drop_of_length_le (by omega), List.drop_of_length_le (by omega)]; rfl
        have E := hid e
        clear e hrest
        go_wp2_with fail
        go_ret
        exact ⟨ret_bool E.out.symm, d, HD.out⟩
  · have hf : (L == M) = false := by
      rw [beq_eq_false_iff_ne]
      intro e
      rw [e] at hn
      omega
    rw [hf]
    clear hf
    go_enter Try.func21, Try.ntmps21
    go_wp2
    go_ret
    exact ⟨rfl, 0, rfl⟩
end Go.Proofs.Yteehicennefcbaa

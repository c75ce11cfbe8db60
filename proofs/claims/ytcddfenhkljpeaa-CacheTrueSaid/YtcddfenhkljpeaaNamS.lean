/- Names, plainly: their labels, their lower forms. -/
import Derived.Test.YtcddfenhkljpeaaKitA
namespace Go.BK.NM
abbrev Bs := List UInt8

/-- The labels of a name; none: it is none. -/
def labS : Bs → Option (List Bs)
  | [] => none
  | c :: r => if c = 0 then (if r = [] then some [] else none) else if 63 < c.toNat ∨ r.length < c.toNat then none else (labS (r.drop c.toNat)).map (r.take c.toNat :: ·)
termination_by l => l.length
decreasing_by simp [List.length_drop]; omega

def wire (L : List Bs) : Bs := L.flatMap (fun s => UInt8.ofNat s.length :: s) ++ [0]
def okL (L : List Bs) : Prop := ∀ s ∈ L, 1 ≤ s.length ∧ s.length ≤ 63

theorem labS_root : labS [0] = some [] := by unfold labS; simp
theorem labS_nil : labS [] = none := by unfold labS; rfl
theorem labS_zero {r : Bs} (h : r ≠ []) : labS (0 :: r) = none := by unfold labS; simp [h]
theorem labS_bad {c : UInt8} {r : Bs} (h : c ≠ 0) (h2 : 63 < c.toNat ∨ r.length < c.toNat) : labS (c :: r) = none := by unfold labS; simp [h, h2]
theorem labS_go {c : UInt8} {r : Bs} (h : c ≠ 0) (h1 : c.toNat ≤ 63) (h2 : c.toNat ≤ r.length) : labS (c :: r) = (labS (r.drop c.toNat)).map (r.take c.toNat :: ·) := by
  rw [labS]
  rw [if_neg h, if_neg (by omega)]

theorem wire_nil : wire [] = [0] := rfl
theorem wire_cons (s : Bs) (L : List Bs) : wire (s :: L) = UInt8.ofNat s.length :: s ++ wire L := by simp [wire]
theorem wire_append (K L : List Bs) : wire (K ++ L) = K.flatMap (fun s => UInt8.ofNat s.length :: s) ++ wire L := by simp [wire]
theorem size_of_label {s : Bs} (h : 1 ≤ s.length ∧ s.length ≤ 63) : (UInt8.ofNat s.length).toNat = s.length ∧ UInt8.ofNat s.length ≠ 0 := by
  have h1 : (UInt8.ofNat s.length).toNat = s.length := by simp [UInt8.toNat_ofNat']; omega
  refine ⟨h1, fun e => ?_⟩
  rw [e] at h1
  simp at h1
  omega

theorem labS_wire {L : List Bs} (h : okL L) : labS (wire L) = some L := by
  induction L with
  | nil => exact labS_root
  | cons s L ih =>
    obtain ⟨h1, h2⟩ := size_of_label (h s (by simp))
    have h3 := h s (by simp)
    rw [wire_cons, List.cons_append, labS_go h2 (by omega) (by simp; omega), h1]
    rw [List.drop_left, List.take_left, ih (fun t ht => h t (by simp [ht]))]
    rfl

theorem labS_some : ∀ {n : Bs} {L : List Bs}, labS n = some L → n = wire L ∧ okL L := by
  intro n
  induction hk : n.length using Nat.strongRecOn generalizing n with
  | _ k ih =>
    intro L h
    rcases n with _ | ⟨c, r⟩
    · rw [labS_nil] at h; cases h
    · by_cases h0 : c = 0
      · subst h0
        by_cases hr : r = []
        · subst hr
          rw [labS_root] at h
          cases h
          exact ⟨rfl, fun s hs => by cases hs⟩
        · rw [labS_zero hr] at h; cases h
      · by_cases h2 : 63 < c.toNat ∨ r.length < c.toNat
        · rw [labS_bad h0 h2] at h; cases h
        · have h3 : c.toNat ≤ 63 := by omega
          have h4 : c.toNat ≤ r.length := by omega
          rw [labS_go h0 h3 h4] at h
          obtain ⟨M, hM, rfl⟩ := Option.map_eq_some_iff.1 h
          have hc : 1 ≤ c.toNat := by
            rcases Nat.eq_zero_or_pos c.toNat with e | e
            · exact absurd (by rw [← UInt8.toNat_inj]; simpa using e) h0
            · exact e
          have hl : (r.take c.toNat).length = c.toNat := by rw [List.length_take]; omega
          obtain ⟨e1, e2⟩ := ih _ (by subst hk; simp; omega) rfl hM
          refine ⟨?_, fun s hs => ?_⟩
          · rw [wire_cons, hl, ← e1, List.cons_append, List.take_append_drop, UInt8.ofNat_toNat]
          · rcases List.mem_cons.1 hs with rfl | hs
            · omega
            · exact e2 s hs

/-- What Labels answers: labels, or the error. -/
def labelsS (n : Bs) : List Bs × Int := match labS n with
  | none => ([], 4)
  | some L => if 255 < n.length then ([], 3) else (L, 0)
def checkS (n : Bs) : Int := (labelsS n).2
theorem labels_none {n : Bs} (h : labS n = none) : labelsS n = ([], 4) := by unfold labelsS; rw [h]
theorem labels_long {n : Bs} {L : List Bs} (h : labS n = some L) (h2 : 255 < n.length) : labelsS n = ([], 3) := by unfold labelsS; rw [h]; simp [h2]
theorem labels_ok {n : Bs} {L : List Bs} (h : labS n = some L) (h2 : n.length ≤ 255) : labelsS n = (L, 0) := by unfold labelsS; rw [h]; simp; omega
theorem labels_cases (n : Bs) : (labelsS n = ([], 4) ∧ labS n = none) ∨ (∃ L, labS n = some L ∧ 255 < n.length ∧ labelsS n = ([], 3)) ∨ (∃ L, labS n = some L ∧ n.length ≤ 255 ∧ labelsS n = (L, 0)) := by
  cases h : labS n with
  | none => exact .inl ⟨labels_none h, rfl⟩
  | some L =>
    by_cases h2 : 255 < n.length
    · exact .inr (.inl ⟨L, rfl, h2, labels_long h h2⟩)
    · exact .inr (.inr ⟨L, rfl, by omega, labels_ok h (by omega)⟩)

def lowB (c : UInt8) : UInt8 := if 65 ≤ c ∧ c ≤ 90 then c + 32 else c
def lower (n : Bs) : Bs := n.map lowB
end Go.BK.NM

import Derived.Test.YtcddfenhkljpeaaKitA
/- Names, plainly: their labels, their lower forms. -/
namespace Go.BK.NM
abbrev Bs := List UInt8

/-- The labels of a name; none: it is none. -/
def labS : Bs → Option (List Bs)
  | [] => none
  | c :: r => if c = 0 then (if r = [] then some [] else none) else if 63 < c.toNat ∨ r.length < c.toNat then none else (labS (r.drop c.toNat)).map (r.take c.toNat :: ·)
termination_by l => l.length
decreasing_by simp [List.length_drop]; omega

def wire (L : List Bs) : Bs := L.flatMap (fun s => UInt8.ofNat s.length :: s) ++ [0]
def okL (L : List Bs) : Prop := ∀ s ∈ L, 1 ≤ s.length ∧ s.length ≤ 63

theorem labS_root : labS [0] = some [] := by unfold labS; simp
theorem labS_nil : labS [] = none := by unfold labS; rfl
theorem labS_zero {r : Bs} (h : r ≠ []) : labS (0 :: r) = none := by unfold labS; simp [h]
theorem labS_bad {c : UInt8} {r : Bs} (h : c ≠ 0) (h2 : 63 < c.toNat ∨ r.length < c.toNat) : labS (c :: r) = none := by unfold labS; simp [h, h2]
theorem labS_go {c : UInt8} {r : Bs} (h : c ≠ 0) (h1 : c.toNat ≤ 63) (h2 : c.toNat ≤ r.length) : labS (c :: r) = (labS (r.drop c.toNat)).map (r.take c.toNat :: ·) := by
  rw [labS]
  rw [if_neg h, if_neg (by omega)]

theorem wire_nil : wire [] = [0] := rfl
theorem wire_cons (s : Bs) (L : List Bs) : wire (s :: L) = UInt8.ofNat s.length :: s ++ wire L := by simp [wire]
theorem wire_append (K L : List Bs) : wire (K ++ L) = K.flatMap (fun s => UInt8.ofNat s.length :: s) ++ wire L := by simp [wire]
theorem size_of_label {s : Bs} (h : 1 ≤ s.length ∧ s.length ≤ 63) : (UInt8.ofNat s.length).toNat = s.length ∧ UInt8.ofNat s.length ≠ 0 := by
  have h1 : (UInt8.ofNat s.length).toNat = s.length := by simp [UInt8.toNat_ofNat']; omega
  refine ⟨h1, fun e => ?_⟩
  rw [e] at h1
  simp at h1
  omega

theorem labS_wire {L : List Bs} (h : okL L) : labS (wire L) = some L := by
  induction L with
  | nil => exact labS_root
  | cons s L ih =>
    obtain ⟨h1, h2⟩ := size_of_label (h s (by simp))
    have h3 := h s (by simp)
    rw [wire_cons, List.cons_append, labS_go h2 (by omega) (by simp; omega), h1]
    rw [List.drop_left, List.take_left, ih (fun t ht => h t (by simp [ht]))]
    rfl

theorem labS_some : ∀ {n : Bs} {L : List Bs}, labS n = some L → n = wire L ∧ okL L := by
  intro n
  induction hk : n.length using Nat.strongRecOn generalizing n with
  | _ k ih =>
    intro L h
    rcases n with _ | ⟨c, r⟩
    · rw [labS_nil] at h; cases h
    · by_cases h0 : c = 0
      · subst h0
        by_cases hr : r = []
        · subst hr
          rw [labS_root] at h
          cases h
          exact ⟨rfl, fun s hs => by cases hs⟩
        · rw [labS_zero hr] at h; cases h
      · by_cases h2 : 63 < c.toNat ∨ r.length < c.toNat
        · rw [labS_bad h0 h2] at h; cases h
        · have h3 : c.toNat ≤ 63 := by omega
          have h4 : c.toNat ≤ r.length := by omega
          rw [labS_go h0 h3 h4] at h
          obtain ⟨M, hM, rfl⟩ := Option.map_eq_some_iff.1 h
          have hc : 1 ≤ c.toNat := by
            rcases Nat.eq_zero_or_pos c.toNat with e | e
            · exact absurd (by rw [← UInt8.toNat_inj]; simpa using e) h0
            · exact e
          have hl : (r.take c.toNat).length = c.toNat := by rw [List.length_take]; omega
          obtain ⟨e1, e2⟩ := ih _ (by subst hk; simp; omega) rfl hM
          refine ⟨?_, fun s hs => ?_⟩
          · rw [wire_cons, hl, ← e1, List.cons_append, List.take_append_drop, UInt8.ofNat_toNat]
          · rcases List.mem_cons.1 hs with rfl | hs
            · omega
            · exact e2 s hs

/-- What Labels answers: labels, or the error. -/
def labelsS (n : Bs) : List Bs × Int := match labS n with
  | none => ([], 4)
  | some L => if 255 < n.length then ([], 3) else (L, 0)
def checkS (n : Bs) : Int := (labelsS n).2
theorem labels_none {n : Bs} (h : labS n = none) : labelsS n = ([], 4) := by unfold labelsS; rw [h]
theorem labels_long {n : Bs} {L : List Bs} (h : labS n = some L) (h2 : 255 < n.length) : labelsS n = ([], 3) := by unfold labelsS; rw [h]; simp [h2]
theorem labels_ok {n : Bs} {L : List Bs} (h : labS n = some L) (h2 : n.length ≤ 255) : labelsS n = (L, 0) := by unfold labelsS; rw [h]; simp; omega
theorem labels_cases (n : Bs) : (labelsS n = ([], 4) ∧ labS n = none) ∨ (∃ L, labS n = some L ∧ 255 < n.length ∧ labelsS n = ([], 3)) ∨ (∃ L, labS n = some L ∧ n.length ≤ 255 ∧ labelsS n = (L, 0)) := by
  cases h : labS n with
  | none => exact .inl ⟨labels_none h, rfl⟩
  | some L =>
    by_cases h2 : 255 < n.length
    · exact .inr (.inl ⟨L, rfl, h2, labels_long h h2⟩)
    · exact .inr (.inr ⟨L, rfl, by omega, labels_ok h (by omega)⟩)

def lowB (c : UInt8) : UInt8 := if 65 ≤ c ∧ c ≤ 90 then c + 32 else c
def lower (n : Bs) : Bs := n.map lowB
end Go.BK.NM
/- Names, plainly: which is ahead, zones, what is behind the first label; the laws of these. -/
namespace Go.BK.NM
set_option linter.unusedVariables false

def cmpLex {α : Type} (f : α → α → Int) : List α → List α → Int
  | [], [] => 0
  | [], _ :: _ => -1
  | _ :: _, [] => 1
  | a :: as, b :: bs => if f a b = 0 then cmpLex f as bs else f a b

structure Ord3 {α : Type} (f : α → α → Int) : Prop where
  anti : ∀ a b, f a b = - f b a
  eq : ∀ a b, f a b = 0 ↔ a = b
  trans : ∀ a b c, f a b ≤ 0 → f b c ≤ 0 → f a c ≤ 0

theorem lex_anti {α : Type} {f : α → α → Int} (h : Ord3 f) : ∀ a b : List α, cmpLex f a b = - cmpLex f b a := by
  intro a
  induction a with
  | nil => intro b; cases b <;> simp [cmpLex]
  | cons x a ih =>
    intro b
    cases b with
    | nil => simp [cmpLex]
    | cons y b =>
      have h1 := h.anti x y
      unfold cmpLex
      by_cases h0 : f x y = 0
      · rw [if_pos h0, if_pos (by omega)]; exact ih b
      · rw [if_neg h0, if_neg (by omega)]; exact h1
theorem lex_eq {α : Type} {f : α → α → Int} (h : Ord3 f) : ∀ a b : List α, cmpLex f a b = 0 ↔ a = b := by
  intro a
  induction a with
  | nil => intro b; cases b <;> simp [cmpLex]
  | cons x a ih =>
    intro b
    cases b with
    | nil => simp [cmpLex]
    | cons y b =>
      have h1 := h.eq x y
      unfold cmpLex
      by_cases h0 : f x y = 0
      · rw [if_pos h0, ih b]
        have := h1.1 h0
        simp [this]
      · rw [if_neg h0]
        constructor
        · intro e; exact absurd e h0
        · intro e; injection e with e1 e2; exact absurd (h1.2 e1) h0
theorem lex_trans {α : Type} {f : α → α → Int} (h : Ord3 f) : ∀ a b c : List α, cmpLex f a b ≤ 0 → cmpLex f b c ≤ 0 → cmpLex f a c ≤ 0 := by
  intro a
  induction a with
  | nil => intro b c _ _; cases c <;> simp [cmpLex]
  | cons x a ih =>
    intro b c
    cases b with
    | nil => intro h1 _; simp [cmpLex] at h1
    | cons y b =>
      cases c with
      | nil => intro _ h1; simp [cmpLex] at h1
      | cons z c =>
        have e1 := h.eq x y
        have e2 := h.eq y z
        have e3 := h.eq x z
        have a1 := h.anti x y
        have a2 := h.anti y z
        have t := h.trans x y z
        unfold cmpLex
        by_cases h1 : f x y = 0
        · have := e1.1 h1
          subst this
          rw [if_pos h1]
          by_cases h2 : f x z = 0
          · rw [if_pos h2, if_pos h2]; exact ih b c
          · rw [if_neg h2, if_neg h2]; intro _ h; exact h
        · rw [if_neg h1]
          by_cases h2 : f y z = 0
          · have := e2.1 h2
            subst this
            rw [if_pos h2, if_neg h1]; intro h _; exact h
          · rw [if_neg h2]
            intro k1 k2
            have k3 := t k1 k2
            have h3 : f x z ≠ 0 := by
              intro h3
              have := e3.1 h3
              subst this
              omega
            rw [if_neg h3]; exact k3
theorem Ord3.lex {α : Type} {f : α → α → Int} (h : Ord3 f) : Ord3 (cmpLex f) := ⟨lex_anti h, lex_eq h, lex_trans h⟩
theorem lex_prefix {α : Type} {f : α → α → Int} (h : Ord3 f) (y t : List α) : 0 ≤ cmpLex f (y ++ t) y := by
  induction y with
  | nil => cases t <;> simp [cmpLex]
  | cons x y ih =>
    show 0 ≤ (if f x x = 0 then cmpLex f (y ++ t) y else f x x)
    rw [if_pos ((h.eq x x).2 rfl)]; exact ih

def fB (x y : UInt8) : Int := if x.toNat < y.toNat then -1 else if y.toNat < x.toNat then 1 else 0
theorem fB_ord : Ord3 fB := by
  refine ⟨fun a b => ?_, fun a b => ?_, fun a b c => ?_⟩
  · unfold fB; split <;> split <;> omega
  · unfold fB
    rw [← UInt8.toNat_inj]
    split
    · simp; omega
    · split
      · simp; omega
      · simp; omega
  · unfold fB; repeat' split
    all_goals omega
def cmpS : Bs → Bs → Int := cmpLex fB
theorem cmpS_ord : Ord3 cmpS := fB_ord.lex
theorem lex_range {α : Type} {f : α → α → Int} (h : ∀ a b, f a b = -1 ∨ f a b = 0 ∨ f a b = 1) : ∀ a b : List α, cmpLex f a b = -1 ∨ cmpLex f a b = 0 ∨ cmpLex f a b = 1 := by
  intro a
  induction a with
  | nil => intro b; cases b <;> simp [cmpLex]
  | cons x a ih =>
    intro b
    cases b with
    | nil => simp [cmpLex]
    | cons y b =>
      unfold cmpLex
      split
      · exact ih b
      · exact h x y
theorem cmpS_range (a b : Bs) : cmpS a b = -1 ∨ cmpS a b = 0 ∨ cmpS a b = 1 := lex_range (fun x y => by unfold fB; split <;> (try split) <;> simp) a b

/-- Labels, lower, the last one first. -/
def keyL (L : List Bs) : List Bs := L.reverse.map lower
def cmpN (L M : List Bs) : Int := cmpLex cmpS (keyL L) (keyL M)
theorem cmpN_ord : ∀ L M K, cmpN L M = - cmpN M L ∧ (cmpN L M = 0 ↔ keyL L = keyL M) ∧ (cmpN L M ≤ 0 → cmpN M K ≤ 0 → cmpN L K ≤ 0) :=
  fun L M K => ⟨cmpS_ord.lex.anti _ _, cmpS_ord.lex.eq _ _, cmpS_ord.lex.trans _ _ _⟩
theorem cmpN_range (L M : List Bs) : cmpN L M = -1 ∨ cmpN L M = 0 ∨ cmpN L M = 1 := lex_range cmpS_range _ _

def withinL (L Z : List Bs) : Bool := decide (Z.length ≤ L.length) && decide ((L.drop (L.length - Z.length)).map lower = Z.map lower)
theorem within_iff (L Z : List Bs) : withinL L Z = true ↔ ∃ t, keyL L = keyL Z ++ t := by
  unfold withinL keyL
  rw [Bool.and_eq_true, decide_eq_true_iff, decide_eq_true_iff]
  constructor
  · rintro ⟨h1, h2⟩
    refine ⟨((L.take (L.length - Z.length)).reverse).map lower, ?_⟩
    rw [List.map_reverse, List.map_reverse, List.map_reverse, ← h2, ← List.reverse_append, ← List.map_append, List.take_append_drop]
  · rintro ⟨t, h⟩
    have hl := congrArg List.length h
    simp at hl
    refine ⟨by omega, ?_⟩
    have h' := congrArg List.reverse h
    rw [List.reverse_append, ← List.map_reverse, ← List.map_reverse, List.reverse_reverse, List.reverse_reverse] at h'
    rw [List.map_drop, h', List.drop_append]
    have : t.reverse.length = L.length - Z.length := by simp; omega
    rw [this, Nat.sub_self, List.drop_zero, List.drop_of_length_le (by omega), List.nil_append]
theorem within_refl (L : List Bs) : withinL L L = true := (within_iff L L).2 ⟨[], by simp⟩
theorem within_root (L : List Bs) : withinL L [] = true := (within_iff L []).2 ⟨keyL L, rfl⟩
theorem within_le {L Z : List Bs} (h : withinL L Z = true) : Z.length ≤ L.length := by
  unfold withinL at h; rw [Bool.and_eq_true, decide_eq_true_iff] at h; exact h.1
theorem within_append (K L : List Bs) : withinL (K ++ L) L = true := (within_iff _ _).2 ⟨keyL K, by simp [keyL]⟩
theorem within_trans {L M Z : List Bs} (h : withinL L M = true) (k : withinL M Z = true) : withinL L Z = true := by
  obtain ⟨s, hs⟩ := (within_iff _ _).1 h
  obtain ⟨t, ht⟩ := (within_iff _ _).1 k
  exact (within_iff _ _).2 ⟨t ++ s, by rw [hs, ht, List.append_assoc]⟩
theorem within_ahead {L Z : List Bs} (h : withinL L Z = true) : 0 ≤ cmpN L Z := by
  obtain ⟨t, ht⟩ := (within_iff _ _).1 h
  unfold cmpN
  rw [ht]
  exact lex_prefix cmpS_ord _ _
theorem within_same_l {L M Z : List Bs} (h : keyL L = keyL M) : withinL L Z = withinL M Z := by
  rw [Bool.eq_iff_iff, within_iff, within_iff, h]
theorem within_same_r {L M Z : List Bs} (h : keyL L = keyL M) : withinL Z L = withinL Z M := by
  rw [Bool.eq_iff_iff, within_iff, within_iff, h]

theorem keyL_inj {L M : List Bs} : keyL L = keyL M ↔ L.map lower = M.map lower := by
  unfold keyL
  rw [List.map_reverse, List.map_reverse, List.reverse_inj]

theorem lower_length (s : Bs) : (lower s).length = s.length := by simp [lower]
theorem lowB_small {c : UInt8} (h : c.toNat ≤ 63) : lowB c = c := by
  unfold lowB
  rw [if_neg]
  rintro ⟨h1, _⟩
  have := UInt8.le_iff_toNat_le.1 h1
  simp at this
  omega
theorem lower_wire {L : List Bs} (h : okL L) : lower (wire L) = wire (L.map lower) := by
  induction L with
  | nil => rfl
  | cons s L ih =>
    have h1 := h s (by simp)
    have ih := ih fun t ht => h t (by simp [ht])
    rw [wire_cons, List.map_cons, wire_cons, ← ih, lower_length]
    unfold lower
    rw [List.map_append, List.map_cons, lowB_small (by rw [(size_of_label h1).1]; exact h1.2)]
theorem okL_lower {L : List Bs} (h : okL L) : okL (L.map lower) := by
  intro s hs
  obtain ⟨t, ht, rfl⟩ := List.mem_map.1 hs
  rw [lower_length]; exact h t ht
theorem wire_inj {L M : List Bs} (h : okL L) (k : okL M) (e : wire L = wire M) : L = M := by
  have h1 := labS_wire h
  rw [e, labS_wire k] at h1
  exact (Option.some.inj h1).symm
/-- Names are the same where their lower forms are. -/
theorem same_iff {L M : List Bs} (h : okL L) (k : okL M) : lower (wire L) = lower (wire M) ↔ keyL L = keyL M := by
  rw [keyL_inj, lower_wire h, lower_wire k]
  exact ⟨wire_inj (okL_lower h) (okL_lower k), fun e => by rw [e]⟩
end Go.BK.NM

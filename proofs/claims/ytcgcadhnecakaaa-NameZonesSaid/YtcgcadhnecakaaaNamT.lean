/- Names, plainly: a name's text, the name of a text; the laws of both. -/
import Derived.Test.YtcgcadhnecakaaaNamS
namespace Go.BK.NM
set_option linter.unusedVariables false

abbrev Flt := Int × Nat
def dig (c : UInt8) : Bool := decide (48 ≤ c.toNat ∧ c.toNat ≤ 57)
def vis (c : UInt8) : Bool := decide (33 ≤ c.toNat ∧ c.toNat ≤ 126)
def num3 (a b c : UInt8) : Nat := 100 * (a.toNat - 48) + 10 * (b.toNat - 48) + (c.toNat - 48)

/-- What stands behind a backslash (at a place): the byte, and how many bytes it takes with the backslash. -/
def escS (r : Bs) (at_ : Nat) : Except Flt (UInt8 × Nat) := match r with
  | [] => .error (4, at_)
  | c :: r1 => if dig c then (match r1 with
      | d :: e :: _ => if dig d && dig e then (if 255 < num3 c d e then .error (5, at_) else .ok (UInt8.ofNat (num3 c d e), 4)) else .error (4, at_)
      | _ => .error (4, at_))
    else if vis c then .ok (c, 2) else .error (4, at_ + 1)

def more (x : UInt8) : Except Flt (Bs × Nat) → Except Flt (Bs × Nat)
  | .error f => .error f
  | .ok (b, e) => .ok (x :: b, e)
def prep (s : Bs) : Except Flt (Bs × Nat) → Except Flt (Bs × Nat)
  | .error f => .error f
  | .ok (b, e) => .ok (s ++ b, e)
def consL (s : Bs) : Except Flt (List Bs) → Except Flt (List Bs)
  | .error f => .error f
  | .ok L => .ok (s :: L)
/-- The bytes of a label, and where it ends. -/
def labG : Bs → Nat → Except Flt (Bs × Nat)
  | [], at_ => .ok ([], at_)
  | c :: r, at_ =>
    if c = 46 then .ok ([], at_)
    else if vis c = false then .error (4, at_)
    else if c = 92 then match r with
      | [] => .error (4, at_)
      | d :: r1 => if dig d then (match r1 with
          | e :: f :: r2 => if dig e && dig f then (if 255 < num3 d e f then .error (5, at_) else more (UInt8.ofNat (num3 d e f)) (labG r2 (at_ + 4))) else .error (4, at_)
          | _ => .error (4, at_))
        else if vis d then more d (labG r1 (at_ + 2)) else .error (4, at_ + 1)
    else more c (labG r (at_ + 1))

theorem labG_nil (p : Nat) : labG [] p = .ok ([], p) := rfl
theorem labG_dot (r : Bs) (p : Nat) : labG (46 :: r) p = .ok ([], p) := by unfold labG; rfl
theorem labG_bad {c : UInt8} (r : Bs) (p : Nat) (h : vis c = false) : labG (c :: r) p = .error (4, p) := by
  have h0 : c ≠ 46 := by rintro rfl; exact absurd h (by decide)
  unfold labG
  rw [if_neg h0, if_pos h]
theorem labG_esc (r : Bs) (p : Nat) : labG (92 :: r) p = match escS r p with
    | .error f => .error f
    | .ok (x, k) => more x (labG (r.drop (k - 1)) (p + k)) := by
  conv => lhs; unfold labG
  rw [if_neg (by decide), if_neg (by decide), if_pos rfl]
  rcases r with _ | ⟨d, r1⟩
  · rfl
  · unfold escS
    simp only
    by_cases hd : dig d = true
    · rw [if_pos hd, if_pos hd]
      rcases r1 with _ | ⟨e, _ | ⟨f, r2⟩⟩
      · rfl
      · rfl
      · simp only
        by_cases h2 : (dig e && dig f) = true
        · rw [if_pos h2, if_pos h2]
          by_cases h3 : 255 < num3 d e f
          · rw [if_pos h3, if_pos h3]
          · rw [if_neg h3, if_neg h3]; rfl
        · rw [if_neg h2, if_neg h2]
    · rw [if_neg hd, if_neg hd]
      by_cases h2 : vis d = true
      · rw [if_pos h2, if_pos h2]; rfl
      · rw [if_neg h2, if_neg h2]
theorem labG_one {c : UInt8} (r : Bs) (p : Nat) (h : vis c = true) (h1 : c ≠ 46) (h2 : c ≠ 92) : labG (c :: r) p = more c (labG r (p + 1)) := by
  conv => lhs; unfold labG
  rw [if_neg h1, if_neg (by simp [h]), if_neg h2]

/-- How the labels of a text are read on. -/
def parG : Nat → Bs → Nat → Except Flt (List Bs)
  | 0, _, _ => .ok []
  | n + 1, r, p => match r with
    | [] => .ok []
    | c :: _ => if c = 46 then .error (4, p) else match labG r p with
      | .error f => .error f
      | .ok (b, e) => if 63 < b.length then .error (3, p) else consL b (parG n (r.drop (e - p + 1)) (e + 1))

theorem parG_nil (n p : Nat) : parG n [] p = .ok [] := by cases n <;> rfl
theorem parG_dot (n : Nat) (r : Bs) (p : Nat) : parG (n + 1) (46 :: r) p = .error (4, p) := rfl
theorem parG_go {n p : Nat} {c : UInt8} {r : Bs} (h : c ≠ 46) : parG (n + 1) (c :: r) p = match labG (c :: r) p with
      | .error f => .error f
      | .ok (b, e) => if 63 < b.length then .error (3, p) else consL b (parG n ((c :: r).drop (e - p + 1)) (e + 1)) := by
  rw [parG]
  simp only [if_neg h]

/-- The text of a byte, of a name's labels. -/
def escT (c : UInt8) : Bs := if c = 46 ∨ c = 92 then [92, c] else if vis c then [c] else [92, UInt8.ofNat (48 + c.toNat / 100), UInt8.ofNat (48 + c.toNat / 10 % 10), UInt8.ofNat (48 + c.toNat % 10)]
def labT (s : Bs) : Bs := s.flatMap escT
def lineT (L : List Bs) : Bs := L.flatMap (fun s => labT s ++ [46])
def textS (n : Bs) : Bs × Int := if (labelsS n).2 = 0 then (if (labelsS n).1 = [] then ([46], 0) else (lineT (labelsS n).1, 0)) else ([], (labelsS n).2)

theorem lineT_cons (s : Bs) (L : List Bs) : lineT (s :: L) = labT s ++ 46 :: lineT L := by simp [lineT]
theorem lineT_append (K L : List Bs) : lineT (K ++ L) = lineT K ++ lineT L := by simp [lineT]
theorem labT_cons (c : UInt8) (s : Bs) : labT (c :: s) = escT c ++ labT s := by simp [labT]
theorem dig_of {k : Nat} (h : k < 10) : dig (UInt8.ofNat (48 + k)) = true ∧ (UInt8.ofNat (48 + k)).toNat = 48 + k := by
  have e : (UInt8.ofNat (48 + k)).toNat = 48 + k := by rw [UInt8.toNat_ofNat']; omega
  exact ⟨by unfold dig; rw [e, decide_eq_true_iff]; omega, e⟩

theorem labG_escT (c : UInt8) (R : Bs) (p : Nat) : labG (escT c ++ R) p = more c (labG R (p + (escT c).length)) := by
  unfold escT
  by_cases h1 : c = 46 ∨ c = 92
  · rw [if_pos h1]
    have hd : dig c = false := by rcases h1 with rfl | rfl <;> decide
    have hv : vis c = true := by rcases h1 with rfl | rfl <;> decide
    have he : escS (c :: R) p = .ok (c, 2) := by unfold escS; simp [hd, hv]
    show labG (92 :: (c :: R)) p = _
    rw [labG_esc, he]
    rfl
  · rw [if_neg h1]
    by_cases hv : vis c = true
    · rw [if_pos hv]
      exact labG_one R p hv (fun e => h1 (.inl e)) (fun e => h1 (.inr e))
    · rw [if_neg hv]
      have hc := c.toNat_lt
      obtain ⟨d1, e1⟩ := dig_of (k := c.toNat / 100) (by omega)
      obtain ⟨d2, e2⟩ := dig_of (k := c.toNat / 10 % 10) (by omega)
      obtain ⟨d3, e3⟩ := dig_of (k := c.toNat % 10) (by omega)
      obtain ⟨x1, hx1⟩ : ∃ x, x = UInt8.ofNat (48 + c.toNat / 100) := ⟨_, rfl⟩
      obtain ⟨x2, hx2⟩ : ∃ x, x = UInt8.ofNat (48 + c.toNat / 10 % 10) := ⟨_, rfl⟩
      obtain ⟨x3, hx3⟩ : ∃ x, x = UInt8.ofNat (48 + c.toNat % 10) := ⟨_, rfl⟩
      rw [← hx1] at d1 e1 ⊢
      rw [← hx2] at d2 e2 ⊢
      rw [← hx3] at d3 e3 ⊢
      have hn : num3 x1 x2 x3 = c.toNat := by unfold num3; rw [e1, e2, e3]; omega
      have he : escS (x1 :: x2 :: x3 :: R) p = .ok (c, 4) := by
        unfold escS
        simp only [d1, d2, d3, if_true, Bool.and_self, hn]
        rw [if_neg (by omega), UInt8.ofNat_toNat]
      show labG (92 :: (x1 :: x2 :: x3 :: R)) p = _
      rw [labG_esc, he]
      rfl

theorem labG_labT : ∀ (s : Bs) (R : Bs) (p : Nat), labG (labT s ++ R) p = prep s (labG R (p + (labT s).length)) := by
  intro s
  induction s with
  | nil =>
    intro R p
    show labG R p = prep [] (labG R p)
    rcases labG R p with f | ⟨b, e⟩ <;> rfl
  | cons c s ih =>
    intro R p
    rw [labT_cons, List.append_assoc, labG_escT, ih, List.length_append, ← Nat.add_assoc]
    rcases labG R (p + (escT c).length + (labT s).length) with f | ⟨b, e⟩ <;> rfl

theorem labG_end (R : Bs) (p : Nat) (h : R = [] ∨ ∃ r, R = 46 :: r) : labG R p = .ok ([], p) := by
  rcases h with rfl | ⟨r, rfl⟩
  · rfl
  · exact labG_dot r p
theorem labT_head {s : Bs} (h : 1 ≤ s.length) : ∃ c r, labT s = c :: r ∧ c ≠ 46 := by
  rcases s with _ | ⟨c, s⟩
  · simp at h
  · rw [labT_cons]
    unfold escT
    by_cases h1 : c = 46 ∨ c = 92
    · rw [if_pos h1]; exact ⟨_, _, rfl, by decide⟩
    · rw [if_neg h1]
      by_cases hv : vis c = true
      · rw [if_pos hv]; exact ⟨_, _, rfl, fun e => h1 (.inl e)⟩
      · rw [if_neg hv]; exact ⟨_, _, rfl, by decide⟩

theorem parG_one {s : Bs} {R : Bs} {n p : Nat} (hs : 1 ≤ s.length ∧ s.length ≤ 63) (h : R = [] ∨ ∃ r, R = 46 :: r) :
    parG (n + 1) (labT s ++ R) p = consL s (parG n (R.drop 1) (p + (labT s).length + 1)) := by
  obtain ⟨c, r, hc, hne⟩ := labT_head hs.1
  have hl := labG_labT s R p
  rw [labG_end R _ h] at hl
  simp only [prep, List.append_nil] at hl
  rw [hc, List.cons_append] at hl ⊢
  rw [parG_go hne, hl]
  simp only
  rw [if_neg (by omega)]
  have e : ((c :: (r ++ R)).drop (p + (c :: r).length - p + 1)) = R.drop 1 := by
    rw [← List.cons_append, Nat.add_sub_cancel_left, List.drop_append]
    simp
  rw [e]
theorem parG_line : ∀ (L : List Bs) (n p : Nat), okL L → L.length ≤ n → parG n (lineT L) p = .ok L := by
  intro L
  induction L with
  | nil => intro n p _ _; exact parG_nil n p
  | cons s L ih =>
    intro n p h hn
    obtain ⟨m, rfl⟩ : ∃ m, n = m + 1 := ⟨n - 1, by simp at hn; omega⟩
    rw [lineT_cons, parG_one (h s (by simp)) (.inr ⟨_, rfl⟩)]
    show consL s (parG m (lineT L) _) = _
    rw [ih m _ (fun t ht => h t (by simp [ht])) (by simp at hn; omega)]
    rfl
theorem parG_line' : ∀ (L : List Bs) (z : Bs) (n p : Nat), okL (L ++ [z]) → L.length + 1 ≤ n → parG n (lineT L ++ labT z) p = .ok (L ++ [z]) := by
  intro L
  induction L with
  | nil =>
    intro z n p h hn
    obtain ⟨m, rfl⟩ : ∃ m, n = m + 1 := ⟨n - 1, by omega⟩
    have := parG_one (R := []) (n := m) (p := p) (h z (by simp)) (.inl rfl)
    rw [List.append_nil, List.drop_nil, parG_nil] at this
    exact this
  | cons s L ih =>
    intro z n p h hn
    obtain ⟨m, rfl⟩ : ∃ m, n = m + 1 := ⟨n - 1, by simp at hn; omega⟩
    rw [lineT_cons, List.append_assoc, List.cons_append, parG_one (h s (by simp)) (.inr ⟨_, rfl⟩)]
    show consL s (parG m (lineT L ++ labT z) _) = _
    rw [ih z m _ (fun t ht => h t (by simp at ht ⊢; exact .inr ht)) (by simp at hn; omega)]
    rfl

theorem escS_le {r : Bs} {p : Nat} : (∀ e q, escS r p = .error (e, q) → p ≤ q ∧ q ≤ p + r.length) ∧ (∀ x k, escS r p = .ok (x, k) → 2 ≤ k ∧ k ≤ r.length + 1) := by
  unfold escS
  rcases r with _ | ⟨c, r⟩
  · exact ⟨fun e q h => by cases h; simp, fun x k h => by cases h⟩
  · simp only
    by_cases hd : dig c = true
    · rw [if_pos hd]
      rcases r with _ | ⟨d, _ | ⟨f, r2⟩⟩
      · exact ⟨fun e q h => by cases h; simp, fun x k h => by cases h⟩
      · exact ⟨fun e q h => by cases h; simp, fun x k h => by cases h⟩
      · simp only
        by_cases h2 : (dig d && dig f) = true
        · rw [if_pos h2]
          by_cases h3 : 255 < num3 c d f
          · rw [if_pos h3]; exact ⟨fun e q h => by cases h; simp, fun x k h => by cases h⟩
          · rw [if_neg h3]; exact ⟨(by intro e q h; cases h), fun x k h => by cases h; simp⟩
        · rw [if_neg h2]; exact ⟨fun e q h => by cases h; simp, fun x k h => by cases h⟩
    · rw [if_neg hd]
      by_cases h2 : vis c = true
      · rw [if_pos h2]; exact ⟨(by intro e q h; cases h), fun x k h => by cases h; simp⟩
      · rw [if_neg h2]; exact ⟨fun e q h => by cases h; simp, fun x k h => by cases h⟩

theorem labG_le : ∀ (r : Bs) (p : Nat), (∀ e q, labG r p = .error (e, q) → p ≤ q ∧ q ≤ p + r.length) ∧ (∀ b e, labG r p = .ok (b, e) → p ≤ e ∧ e ≤ p + r.length) := by
  intro r
  induction hk : r.length using Nat.strongRecOn generalizing r with
  | _ k ih =>
    intro p
    rcases r with _ | ⟨c, r⟩
    · exact ⟨(by intro e q h; cases h), fun b e h => by cases h; simp⟩
    · subst hk
      by_cases h1 : c = 46
      · subst h1
        rw [labG_dot]
        exact ⟨(by intro e q h; cases h), fun b e h => by cases h; simp⟩
      · by_cases h2 : vis c = true
        · by_cases h3 : c = 92
          · subst h3
            rw [labG_esc]
            have he := escS_le (r := r) (p := p)
            rcases hE : escS r p with ⟨e, q⟩ | ⟨x, k⟩
            · have := he.1 _ _ hE
              exact ⟨fun e q h => by cases h; simp only [List.length_cons]; omega, fun b e h => by cases h⟩
            · have h5 := he.2 _ _ hE
              have h6 := ih (r.drop (k - 1)).length (by simp; omega) (r.drop (k - 1)) rfl (p + k)
              simp only
              rcases hG : labG (r.drop (k - 1)) (p + k) with ⟨e, q⟩ | ⟨b, e⟩
              · have := h6.1 _ _ hG
                refine ⟨fun e q h => by cases h; simp only [List.length_cons, List.length_drop] at this ⊢; omega, fun b e h => by cases h⟩
              · have := h6.2 _ _ hG
                refine ⟨(by intro e q h; cases h), fun b e h => by cases h; simp only [List.length_cons, List.length_drop] at this ⊢; omega⟩
          · rw [labG_one r p h2 h1 h3]
            have h6 := ih r.length (by simp) r rfl (p + 1)
            rcases hG : labG r (p + 1) with ⟨e, q⟩ | ⟨b, e⟩
            · have := h6.1 _ _ hG
              refine ⟨fun e q h => by cases h; simp only [List.length_cons] at this ⊢; omega, fun b e h => by cases h⟩
            · have := h6.2 _ _ hG
              refine ⟨(by intro e q h; cases h), fun b e h => by cases h; simp only [List.length_cons] at this ⊢; omega⟩
        · rw [labG_bad r p (by simpa using h2)]
          refine ⟨fun e q h => by cases h; simp, fun b e h => by cases h⟩
theorem parG_le : ∀ (n : Nat) (r : Bs) (p : Nat) (e : Int) (q : Nat), parG n r p = .error (e, q) → q ≤ p + r.length := by
  intro n
  induction n with
  | zero => intro r p e q h; cases h
  | succ n ih =>
    intro r p e q h
    rcases r with _ | ⟨c, r⟩
    · cases h
    · by_cases h1 : c = 46
      · subst h1; rw [parG_dot] at h; cases h; simp
      · rw [parG_go h1] at h
        have hl := labG_le (c :: r) p
        rcases hG : labG (c :: r) p with ⟨e, q⟩ | ⟨b, e2⟩
        · rw [hG] at h
          cases h
          exact (hl.1 _ _ hG).2
        · rw [hG] at h
          simp only at h
          have h2 := hl.2 _ _ hG
          split at h
          · cases h; simp
          · rcases hP : parG n ((c :: r).drop (e2 - p + 1)) (e2 + 1) with ⟨e3, q3⟩ | L
            · rw [hP] at h
              cases h
              have h3 := ih _ _ _ _ hP
              by_cases h4 : e2 = p + (c :: r).length
              · subst h4
                rw [List.drop_of_length_le (by omega), parG_nil] at hP
                cases hP
              · rw [List.length_drop] at h3
                omega
            · rw [hP] at h
              cases h
theorem escT_len (c : UInt8) : 1 ≤ (escT c).length ∧ (escT c).length ≤ 4 := by
  unfold escT
  split
  · simp
  · split <;> simp
theorem labT_len (s : Bs) : s.length ≤ (labT s).length ∧ (labT s).length ≤ 4 * s.length := by
  induction s with
  | nil => simp [labT]
  | cons c s ih => rw [labT_cons]; have := escT_len c; simp; omega
theorem lineT_len (L : List Bs) : L.length ≤ (lineT L).length ∧ (lineT L).length ≤ 4 * (wire L).length := by
  induction L with
  | nil => simp [lineT]
  | cons s L ih => rw [lineT_cons, wire_cons]; have := labT_len s; simp; omega
end Go.BK.NM

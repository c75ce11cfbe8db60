/- Layer 5, plainly: names that stand in bytes, and what Read tells of them. -/
import Derived.Test.YtfimfmghfjokjaaWirS
import Derived.Test.YtfimfmghfjokjaaNamS
namespace Go.Proofs.Ytfimfmghfjokjaa
open Go.BK Go.RowKit Go.BK.NM
set_option linter.unusedVariables false

def flat (K : List Bs) : Bs := K.flatMap (fun s => UInt8.ofNat s.length :: s)
theorem wire_flat (K : List Bs) : wire K = flat K ++ [0] := rfl
theorem flat_nil : flat [] = [] := rfl
theorem flat_cons (s : Bs) (K : List Bs) : flat (s :: K) = UInt8.ofNat s.length :: s ++ flat K := by simp [flat]
theorem flat_append (J K : List Bs) : flat (J ++ K) = flat J ++ flat K := by simp [flat]
theorem flat_one (s : Bs) : flat [s] = UInt8.ofNat s.length :: s := by simp [flat]
theorem flat_len {K : List Bs} (h : okL K) : K = [] ∨ 2 ≤ (flat K).length := by
  cases K with
  | nil => exact .inl rfl
  | cons s K =>
    have := h s (by simp)
    right
    rw [flat_cons]
    simp
    omega
theorem wire_len (K : List Bs) : (wire K).length = (flat K).length + 1 := by rw [wire_flat]; simp

theorem of_drop {l r : Bs} {i : Nat} {c : UInt8} (h : l.drop i = c :: r) : i < l.length ∧ l.getD i 0 = c ∧ l.drop (i + 1) = r ∧ l.length = i + 1 + r.length := by
  have h1 : i < l.length := by
    rcases Nat.lt_or_ge i l.length with h1 | h1
    · exact h1
    · rw [List.drop_of_length_le h1] at h; cases h
  have h2 := congrArg List.length h
  simp at h2
  have h3 := List.drop_eq_getElem_cons h1
  rw [h] at h3
  injection h3 with h4 h5
  refine ⟨h1, ?_, h5.symm, by omega⟩
  rw [List.getD_eq_getElem?_getD, List.getElem?_eq_getElem h1, h4]; rfl
theorem drop_of {l : Bs} {i : Nat} (h : i < l.length) : l.drop i = l.getD i 0 :: l.drop (i + 1) := by
  rw [List.drop_eq_getElem_cons h, List.getD_eq_getElem?_getD, List.getElem?_eq_getElem h]; rfl

theorem rd_flat {l : Bs} {at_ : Int} {part : Nat} {behind : Int} : ∀ (K : List Bs) (out : Bs) (i : Nat) (t : Bs), okL K → l.drop i = flat K ++ t → out.length + (flat K).length ≤ 254 →
    rdS l at_ out part i behind = rdS l at_ (out ++ flat K) part (i + (flat K).length) behind := by
  intro K
  induction K with
  | nil => intro out i t _ _ _; simp [flat_nil]
  | cons s K ih =>
    intro out i t hK hd hl
    have hs := hK s (by simp)
    obtain ⟨z1, z2⟩ := size_of_label hs
    rw [flat_cons, List.cons_append, List.cons_append, List.append_assoc] at hd
    obtain ⟨d1, d2, d3, d4⟩ := of_drop hd
    have hc : (l.getD i 0).toNat = s.length := by rw [d2, z1]
    rw [flat_cons] at hl ⊢
    simp only [List.length_cons, List.length_append, List.cons_append] at hl d4 ⊢
    rw [rdS_label d1 (by omega) (by omega) (by omega) (by omega), hc]
    have e1 : (l.drop i).take (1 + s.length) = UInt8.ofNat s.length :: s := by
      rw [hd, Nat.add_comm, List.take_succ_cons, List.take_left]
    have e2 : l.drop (i + 1 + s.length) = flat K ++ t := by
      rw [← List.drop_drop, d3, List.drop_left]
    rw [e1, ih (out ++ UInt8.ofNat s.length :: s) (i + 1 + s.length) t (fun u hu => hK u (by simp [hu])) e2 (by simp; omega)]
    rw [List.append_assoc, List.cons_append, show i + 1 + s.length + (flat K).length = i + (s.length + (flat K).length + 1) from by omega]

theorem rd_clear {l t : Bs} {at_ : Int} {part i : Nat} {behind : Int} {K : List Bs} {out : Bs} (h : okL K) (hd : l.drop i = wire K ++ t) (hl : out.length + (flat K).length ≤ 254) :
    rdS l at_ out part i behind = (out ++ wire K, if behind < 0 then (i : Int) + (wire K).length else behind, 0, 0) := by
  rw [wire_flat, List.append_assoc] at hd
  rw [rd_flat K out i _ h hd hl]
  have e2 : l.drop (i + (flat K).length) = 0 :: t := by rw [← List.drop_drop, hd, List.drop_left]; rfl
  obtain ⟨d1, d2, d3, d4⟩ := of_drop e2
  rw [rdS_zero d1 (by rw [d2]; rfl), wire_flat, List.append_assoc]
  simp only [List.length_append, List.length_singleton, Int.natCast_add]
  split <;> simp <;> omega

/-- A name stands at a place of bytes: in the clear, or its first labels, and then a pointer ahead. -/
inductive Stands (l : Bs) : Nat → List Bs → Nat → Prop
  | clear {a : Nat} {K : List Bs} {t : Bs} : l.drop a = wire K ++ t → Stands l a K (a + (wire K).length)
  | point {a p m : Nat} {J K : List Bs} {hi lo : UInt8} {t : Bs} : l.drop a = flat J ++ hi :: lo :: t → 192 ≤ hi.toNat → (hi.toNat - 192) * 256 + lo.toNat = p → p < a → Stands l p K m → Stands l a (J ++ K) (a + (flat J).length + 2)

theorem Stands.more {l : Bs} {a n : Nat} {K : List Bs} (h : Stands l a K n) (m : Bs) : Stands (l ++ m) a K n := by
  induction h with
  | @clear a K t h =>
    refine .clear (t := t ++ m) ?_
    have h1 : a ≤ l.length := by
      rcases Nat.lt_or_ge l.length a with h1 | h1
      · rw [List.drop_of_length_le (by omega)] at h
        rw [wire_flat] at h; simp at h
      · exact h1
    rw [List.drop_append_of_le_length h1, h, List.append_assoc]
  | @point a p m' J K hi lo t h h1 h2 h3 _ ih =>
    have h4 : a ≤ l.length := by
      rcases Nat.lt_or_ge l.length a with h1 | h1
      · rw [List.drop_of_length_le (by omega)] at h
        simp at h
      · exact h1
    exact .point (t := t ++ m) (by rw [List.drop_append_of_le_length h4, h]; simp) h1 h2 h3 ih
theorem Stands.le {l : Bs} {a n : Nat} {K : List Bs} (h : Stands l a K n) : a < n ∧ n ≤ l.length := by
  cases h with
  | @clear _ _ t h =>
    have := congrArg List.length h
    have hw := wire_len K
    simp at this
    omega
  | @point _ p m J K hi lo t h h1 h2 h3 _ =>
    have := congrArg List.length h
    simp at this
    omega

theorem stands_rd {l : Bs} {at_ : Int} {a n : Nat} {K : List Bs} (h : Stands l a K n) : ∀ (out : Bs) (behind : Int), okL K → out.length + (flat K).length ≤ 254 →
    rdS l at_ out a a behind = (out ++ wire K, if behind < 0 then (n : Int) else behind, 0, 0) := by
  induction h with
  | clear h =>
    intro out behind hK hl
    rw [rd_clear hK h hl]
    simp
  | @point a p m J K hi lo t h h1 h2 h3 h4 ih =>
    intro out behind hK hl
    rw [flat_append] at hl
    simp only [List.length_append] at hl
    rw [rd_flat J out a _ (fun s hs => hK s (by simp [hs])) h (by omega)]
    have e2 : l.drop (a + (flat J).length) = hi :: lo :: t := by rw [← List.drop_drop, h, List.drop_left]
    obtain ⟨d1, d2, d3, d4⟩ := of_drop e2
    obtain ⟨f1, f2, f3, f4⟩ := of_drop d3
    have hg : ((l.getD (a + (flat J).length) 0).toNat - 192) * 256 + (l.getD (a + (flat J).length + 1) 0).toNat = p := by rw [d2, f2]; exact h2
    rw [rdS_go d1 (by rw [d2]; exact h1) (by omega) hg h3]
    rw [ih _ _ (fun s hs => hK s (by simp [hs])) (by simp; omega)]
    rw [List.append_assoc]
    have e3 : flat J ++ wire K = wire (J ++ K) := by rw [wire_flat, wire_flat, flat_append, List.append_assoc]
    rw [e3]
    congr 1
    congr 1
    split
    · rw [if_neg (by omega)]; omega
    · rfl
/-- What stands somewhere is read. -/
theorem stands_read {l : Bs} {a n : Nat} {K : List Bs} (h : Stands l a K n) (hK : okL K) (hl : (wire K).length ≤ 255) : readS l a = (wire K, (n : Int), 0, 0) := by
  have h1 := h.le
  have h2 := wire_len K
  unfold readS
  rw [if_neg (by omega), Int.toNat_natCast, stands_rd h [] (-1) hK (by simp; omega)]
  simp

/-- Where there is no fault its place is 0. -/
theorem rdS_fine {l : Bs} {at_ : Int} : ∀ (m : Nat) (out : Bs) (part i : Nat) (behind : Int), part * (l.length + 1) + (l.length - i) = m → (rdS l at_ out part i behind).2.2.1 = 0 → (rdS l at_ out part i behind).2.2.2 = 0 := by
  intro m
  induction m using Nat.strongRecOn with
  | _ m ih =>
    intro out part i behind hm
    rcases Nat.lt_or_ge i l.length with hi | hi
    case inr => rw [rdS_end hi]; intro h; simp at h
    by_cases h0 : (l.getD i 0).toNat = 0
    · rw [rdS_zero hi h0]; intro _; rfl
    by_cases hp : 192 ≤ (l.getD i 0).toNat
    · by_cases h2 : l.length < i + 2
      · rw [rdS_short hi hp h2]; intro h; simp at h
      · obtain ⟨n, hn⟩ : ∃ n, ((l.getD i 0).toNat - 192) * 256 + (l.getD (i + 1) 0).toNat = n := ⟨_, rfl⟩
        by_cases hq : part ≤ n
        · rw [rdS_loop hi hp (by omega) hn hq]; intro h; simp at h
        · rw [rdS_go hi hp (by omega) hn (by omega)]
          have hlt : n * (l.length + 1) + (l.length - n) < m := by
            have : (n + 1) * (l.length + 1) ≤ part * (l.length + 1) := Nat.mul_le_mul_right _ (by omega)
            rw [Nat.add_mul] at this
            omega
          exact ih _ hlt _ _ _ _ rfl
    by_cases h63 : 63 < (l.getD i 0).toNat
    · rw [rdS_odd hi (by omega) h63]; intro h; simp at h
    by_cases hc : l.length < i + 1 + (l.getD i 0).toNat
    · rw [rdS_cut hi h0 (by omega) hc]; intro h; simp at h
    by_cases hg : 254 < out.length + (1 + (l.getD i 0).toNat)
    · rw [rdS_long hi h0 (by omega) (by omega) hg]; intro h; simp at h
    · rw [rdS_label hi h0 (by omega) (by omega) (by omega)]
      exact ih _ (by omega) _ _ _ _ rfl
theorem rd_fine {l : Bs} {at_ : Int} {S : Bs} {n f x : Int} (h : readS l at_ = (S, n, f, x)) (hf : f = 0) : x = 0 := by
  unfold readS at h
  split at h
  · cases h; cases hf
  · have := rdS_fine (l := l) (at_ := at_) _ [] at_.toNat at_.toNat (-1) rfl
    rw [h] at this
    exact this hf

/-- What Read tells: a fault within the bytes, or a name that may be, and ends behind its place, at most 256 bytes on. -/
def EndsS (l : Bs) (a : Nat) (R : Bs × Int × Int × Int) : Prop :=
  (R.2.2.1 ≠ 0 ∧ R.1 = [] ∧ R.2.1 = 0 ∧ 0 ≤ R.2.2.2 ∧ R.2.2.2 ≤ l.length) ∨
  (R.2.2.1 = 0 ∧ ∃ N, okL N ∧ R.1 = wire N ∧ (wire N).length ≤ 255 ∧ (a : Int) < R.2.1 ∧ R.2.1 ≤ l.length ∧ R.2.1 - a ≤ 256 ∧ (R.2.1 - a = (wire N).length → ∃ t, l.drop a = wire N ++ t))

theorem rd_ends {l : Bs} {a : Nat} (ha : a ≤ l.length) : ∀ (m : Nat) (out : Bs) (part i : Nat) (behind : Int) (K : List Bs), part * (l.length + 1) + (l.length - i) = m → okL K → out = flat K → out.length ≤ 254 →
    (behind < 0 ∧ i = a + out.length ∧ (∃ t, l.drop a = out ++ t)) ∨ (∃ J L, K = J ++ L ∧ behind = (a : Int) + (flat J).length + 2 ∧ behind ≤ l.length) → EndsS l a (rdS l a out part i behind) := by
  intro m
  induction m using Nat.strongRecOn with
  | _ m ih =>
    intro out part i behind K hm hK hout hlen hst
    rcases Nat.lt_or_ge i l.length with hi | hi
    case inr => rw [rdS_end hi]; exact .inl ⟨by simp, rfl, rfl, by simp, by simp⟩
    by_cases h0 : (l.getD i 0).toNat = 0
    · rw [rdS_zero hi h0]
      refine .inr ⟨rfl, K, hK, by rw [hout]; rfl, by rw [wire_len, ← hout]; omega, ?_⟩
      have hw := wire_len K
      rw [← hout] at hw
      rcases hst with ⟨hb, h1, t, ht⟩ | ⟨J, L, h1, h2, h3⟩
      · rw [if_pos hb]
        refine ⟨by simp only; omega, by simp only; omega, by simp only; omega, fun _ => ?_⟩
        have hd := drop_of hi
        have hz : l.getD i 0 = 0 := by rw [← UInt8.toNat_inj]; exact h0
        rw [hz] at hd
        refine ⟨l.drop (i + 1), ?_⟩
        have e : t = l.drop i := by
          rw [h1, ← List.drop_drop, ht, List.drop_left]
        rw [ht, e, hd, wire_flat, hout, List.append_assoc]; rfl
      · have hf := congrArg List.length (congrArg flat h1)
        rw [flat_append, ← hout] at hf
        simp at hf
        rw [if_neg (by omega)]
        refine ⟨by simp only; omega, by simp only; omega, by simp only; omega, fun h => ?_⟩
        have hL := flat_len (K := L) (fun s hs => hK s (by rw [h1]; simp [hs]))
        simp only at h
        rcases hL with rfl | hL
        · simp [flat_nil] at hf; omega
        · omega
    by_cases hp : 192 ≤ (l.getD i 0).toNat
    · by_cases h2 : l.length < i + 2
      · rw [rdS_short hi hp h2]; exact .inl ⟨by simp, rfl, rfl, by simp, by simp⟩
      · obtain ⟨n, hn⟩ : ∃ n, ((l.getD i 0).toNat - 192) * 256 + (l.getD (i + 1) 0).toNat = n := ⟨_, rfl⟩
        by_cases hq : part ≤ n
        · rw [rdS_loop hi hp (by omega) hn hq]; exact .inl ⟨by simp, rfl, rfl, by simp, by simp; omega⟩
        · rw [rdS_go hi hp (by omega) hn (by omega)]
          have hlt : n * (l.length + 1) + (l.length - n) < m := by
            have : (n + 1) * (l.length + 1) ≤ part * (l.length + 1) := Nat.mul_le_mul_right _ (by omega)
            rw [Nat.add_mul] at this
            omega
          refine ih _ hlt out n n _ K rfl hK hout hlen (.inr ?_)
          rcases hst with ⟨hb, h1, t, ht⟩ | ⟨J, L, h1, h2, h3⟩
          · rw [if_pos hb]
            exact ⟨K, [], by simp, by rw [← hout]; omega, by omega⟩
          · rw [if_neg (by omega)]
            exact ⟨J, L, h1, h2, h3⟩
    by_cases h63 : 63 < (l.getD i 0).toNat
    · rw [rdS_odd hi (by omega) h63]; exact .inl ⟨by simp, rfl, rfl, by simp, by simp; omega⟩
    by_cases hc : l.length < i + 1 + (l.getD i 0).toNat
    · rw [rdS_cut hi h0 (by omega) hc]; exact .inl ⟨by simp, rfl, rfl, by simp, by simp⟩
    by_cases hg : 254 < out.length + (1 + (l.getD i 0).toNat)
    · rw [rdS_long hi h0 (by omega) (by omega) hg]; exact .inl ⟨by simp, rfl, rfl, by simp, by simp; omega⟩
    · rw [rdS_label hi h0 (by omega) (by omega) (by omega)]
      obtain ⟨c, hcc⟩ : ∃ c, l.getD i 0 = c := ⟨_, rfl⟩
      have hd := drop_of hi
      rw [hcc] at hd h0 hp h63 hc hg ⊢
      obtain ⟨s, hs⟩ : ∃ s, s = (l.drop (i + 1)).take c.toNat := ⟨_, rfl⟩
      have hsl : s.length = c.toNat := by rw [hs, List.length_take, List.length_drop]; omega
      have e1 : (l.drop i).take (1 + c.toNat) = UInt8.ofNat s.length :: s := by
        rw [hd, Nat.add_comm, List.take_succ_cons, ← hs, hsl, UInt8.ofNat_toNat]
      rw [e1]
      have e3 : out ++ UInt8.ofNat s.length :: s = flat (K ++ [s]) := by rw [flat_append, flat_one, hout]
      refine ih _ (by omega) _ _ _ _ (K ++ [s]) rfl ?_ e3 (by simp; omega) ?_
      · intro u hu
        rcases List.mem_append.1 hu with hu | hu
        · exact hK u hu
        · simp at hu; subst hu; omega
      · rcases hst with ⟨hb, h1, t, ht⟩ | ⟨J, L, h1, h2, h3⟩
        · refine .inl ⟨hb, by simp; omega, ?_⟩
          have e : t = l.drop i := by rw [h1, ← List.drop_drop, ht, List.drop_left]
          refine ⟨l.drop (i + 1 + c.toNat), ?_⟩
          rw [ht, e, List.append_assoc, ← e1, Nat.add_assoc, ← List.drop_drop, List.take_append_drop]
        · exact .inr ⟨J, L ++ [s], by rw [h1, List.append_assoc], h2, h3⟩

theorem read_ends {l : Bs} {a : Nat} (ha : a ≤ l.length) : EndsS l a (readS l a) := by
  unfold readS
  rw [if_neg (by omega), Int.toNat_natCast]
  exact rd_ends ha _ [] a a (-1) [] rfl (fun s hs => by cases hs) rfl (by simp) (.inl ⟨by omega, by simp, ⟨_, rfl⟩⟩)
end Go.Proofs.Ytfimfmghfjokjaa

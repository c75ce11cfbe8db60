/- The document's Packer: its words in memory, and place. -/
import Derived.Test.YtfimfmghfjokjaaRefA
import Derived.Test.YtfimfmghfjokjaaPakC
import Derived.Test.YtfimfmghfjokjaaWirP
namespace Go.Proofs.Ytfimfmghfjokjaa
open Go.BK Go.RowKit Go.BK.NM
set_option linter.unusedVariables false

def tcells (T : Tails) : List Value := T.flatMap fun p => [.string (str p.1), .int .i64 (p.2 : Int)]
theorem tcells_len (T : Tails) : (tcells T).length = T.length * 2 := by
  induction T with
  | nil => rfl
  | cons p T ih => simp [tcells] at ih ⊢; omega
theorem tcells_app (T U : Tails) : tcells (T ++ U) = tcells T ++ tcells U := by simp [tcells]
theorem tcells_at : ∀ (T : Tails) (j : Nat) (h : j < T.length), (tcells T)[j * 2]? = some (.string (str T[j].1)) ∧ (tcells T)[j * 2 + 1]? = some (.int .i64 (T[j].2 : Int)) := by
  intro T
  induction T with
  | nil => intro j h; simp at h
  | cons p T ih =>
    intro j h
    rcases j with _ | j
    · exact ⟨rfl, rfl⟩
    · have := ih j (by simpa using h)
      rw [Nat.succ_mul]
      simpa [tcells] using this
def okQ (v : Value) : Prop := (∃ s, v = .string s) ∨ ∃ k, v = .int .i64 k
theorem okQ.one {v : Value} (h : okQ v) : v.oneCell' = true := by rcases h with ⟨b, rfl⟩ | ⟨b, rfl⟩ <;> rfl
theorem okQ_cells (T : Tails) : ∀ u ∈ tcells T, okQ u := by
  intro u hu
  obtain ⟨p, _, hp⟩ := List.mem_flatMap.1 hu
  simp at hp
  rcases hp with rfl | rfl
  · exact .inl ⟨_, rfl⟩
  · exact .inr ⟨_, rfl⟩
/-- The document's Packer at q: its tails in order, where the last name ended. -/
def QW (w : World) (q : Nat) (A : Option Addr) (c : Nat) (T : Tails) (e : Nat) : Prop :=
  Blk w q 54 #[.slice A T.length c, .int .i64 (e : Int)] ∧ OwnG okQ w (q + 1) 69 2 A T.length c (tcells T)
theorem QW.shy {U : Nat → Prop} {w w' : World} {q c e : Nat} {A : Option Addr} {T : Tails} (h : QW w q A c T e) (hs : Shy U w w') (h1 : ¬ U q) (h2 : ∀ b, blk A = some b → ¬ U b) : QW w' q A c T e :=
  ⟨(hs.block _ h.1.lt h1).trans h.1, hs.ownG h.2 h2⟩
theorem QW.ext {w w' : World} {q c e : Nat} {A : Option Addr} {T : Tails} (h : QW w q A c T e) (hs : Ext w w') : QW w' q A c T e :=
  h.shy (U := fun _ => False) (Shy.of_ext hs) id (fun _ _ => id)

theorem look_first {x : Bs} : ∀ (T : Tails) (k : Nat) (hk : k < T.length), T[k].1 = x → (∀ j (hj : j < k), (T[j]'(by omega)).1 ≠ x) → lookT T x = some T[k].2 := by
  intro T
  induction T with
  | nil => intro k hk; simp at hk
  | cons p T ih =>
    intro k hk h hn
    rcases k with _ | k
    · have h' : p.1 = x := h
      simp [lookT, h']
    · have h0 : p.1 ≠ x := hn 0 (by omega)
      have := ih k (by simpa using hk) h (fun j hj => hn (j + 1) (by omega))
      simpa [lookT, List.find?_cons, h0] using this
def placeV (T : Tails) (x : Bs) : Int := match lookT T x with
  | some k => (k : Int)
  | none => -1
theorem place_some {T : Tails} {x : Bs} {k : Nat} (h : lookT T x = some k) : placeV T x = (k : Int) := by unfold placeV; rw [h]
theorem place_none {T : Tails} {x : Bs} (h : lookT T x = none) : placeV T x = -1 := by unfold placeV; rw [h]

set_option maxHeartbeats 2000000 in
theorem place_in {w : World} {q c e : Nat} {A : Option Addr} {T : Tails} (x : Bs) (h : QW w q A c T e) (hT : T.length ≤ 1000000) :
    Calls Try.prog 31 #[.pointer (some ⟨q, 0, none⟩), .string (str x)] w fun ee w' => ee = .returned (.int .i64 (placeV T x)) ∧ w = w' := by
  obtain ⟨c0, c1, cf⟩ := h.1.two
  have hr := h.2.rd
  have hcap := hr.cap
  have hc9 := hr.c_le
  have hcell := hid (fun (j : Nat) (hj : j < T.length) => show ∃ b o, A = some ⟨b, o, none⟩ ∧ w.cell? ⟨b, o + j * 2, none⟩ = some (.string (str T[j].1)) ∧ w.cell? ⟨b, o + j * 2 + 1, none⟩ = some (.int .i64 (T[j].2 : Int)) from by
    obtain ⟨b, o, h1, h2, h3⟩ := hr.2.2.2 (by omega)
    obtain ⟨t1, t2⟩ := tcells_at T j hj
    exact ⟨b, o, h1, h3 _ _ t1, by rw [Nat.add_assoc]; exact h3 _ _ t2⟩)
  obtain ⟨V, hV⟩ : ∃ V, V = placeV T x := ⟨_, rfl⟩
  rw [← hV]
  have HV := hid hV
  obtain ⟨s, hs⟩ : ∃ s, s = str x := ⟨_, rfl⟩
  rw [← hs]
  have HS := hid hs
  clear h hr hV hs
  go_enter Try.func31, Try.ntmps31
  go_wp2_with fail
  go_loopw [5] (fun i wr => ∃ k : Nat, k ≤ T.length ∧ i = .int .i64 k ∧ Hid (∀ j (hj : j < k) (hk : k ≤ T.length), (T[j]'(by omega)).1 ≠ x) ∧ wr = w) (fun i _ => T.length - (intOf i).toNat)
  case atStart => exact ⟨0, Nat.zero_le _, rfl, hid (fun j hj => absurd hj (Nat.not_lt_zero _)), rfl⟩
  case round =>
    obtain ⟨k, hk, rfl, HN, rfl⟩ := hrel
    by_cases hlt : k < T.length
    · obtain ⟨b, o, rfl, t1, t2⟩ := hcell.out k hlt
      have hi2 : (k : Int) < (T.length : Int) := by omega
      by_cases hx : T[k].1 = x
      · have hl := look_first T k hlt hx (fun j hj => HN.out j hj hk)
        have hv : V = (T[k].2 : Int) := by rw [HV.out, place_some hl]
        obtain ⟨sy, hsy⟩ : ∃ sy, sy = str T[k].1 := ⟨_, rfl⟩
        rw [← hsy] at t1
        have z : (sy.toList == s.toList) = true := by rw [hsy, HS.out, hx]; simp
        generalize T[k].2 = tk at *
        clear hx hl hsy
        go_wp2_with fail
        go_ret
        rw [hv]
        exact ⟨rfl, rfl⟩
      · obtain ⟨sy, hsy⟩ : ∃ sy, sy = str T[k].1 := ⟨_, rfl⟩
        rw [← hsy] at t1
        have z : (sy.toList == s.toList) = false := by rw [hsy, HS.out, str_toList, str_toList]; simpa using hx
        have HX := hid hx
        clear hsy t2 hx
        go_wp2_with fail
        go_roundw
        case rel => exact ⟨k + 1, by omega, by go_num, hid (fun j hj hk2 => by
          rcases Nat.lt_or_ge j k with h1 | h1
          · exact HN.out j h1 hk
          · obtain rfl : j = k := by omega
            exact HX.out), trivial⟩
        case measure => simp [intOf]; omega
    · obtain rfl : k = T.length := by omega
      have hv : V = -1 := by
        rw [HV.out]
        exact place_none (look_none.2 (fun p hp => by
          obtain ⟨j, hj, rfl⟩ := List.getElem_of_mem hp
          exact HN.out j hj (Nat.le_refl _)))
      clear hlt hk
      go_wp2_with fail
      go_ret
      rw [hv]
      exact ⟨rfl, rfl⟩
end Go.Proofs.Ytfimfmghfjokjaa

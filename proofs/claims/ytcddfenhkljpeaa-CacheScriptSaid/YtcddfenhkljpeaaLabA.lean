import Derived.Test.YtcddfenhkljpeaaCsC
import Derived.Test.YtcddfenhkljpeaaRngA
import Derived.Test.YtcddfenhkljpeaaCsA
import Derived.Test.YtcddfenhkljpeaaCsB
import Derived.Shelf.RegionOpen
import Derived.RegionIn
import Derived.Sort.QuietIn
import Derived.IntWalk
/- name.all: an iterator over a name's labels, for every body that leaves its place alone. -/
namespace Go.Proofs.Ytcddfenhkljpeaa
open Go.BK Go.RowKit Go.Shelf Go.BK.NM
attribute [local go_sem] Oper.semAt_some
set_option linter.unusedVariables false

/-- What the iterator leaves: all labels came, or what is none came last. -/
def Went (J : List Bs → World → Prop) (Jx : World → Prop) (n0 : Bs) (e : Ending) (W : World) : Prop :=
  (∃ v, e = .returned v) ∧ ((labS n0 = none ∧ Jx W) ∨ ∃ L, labS n0 = some L ∧ J L W)

/-- Between two rounds: what came, what is left. -/
def AllRel (n0 : Bs) (q : Nat) (J : List Bs → World → Prop) (wr : World) : Prop :=
  ∃ (pre : List Bs) (r : Bs), wr.cell? ⟨q, 0, none⟩ = some (.string (str r)) ∧ wr.frozen? ⟨q, 0, none⟩ = false ∧ J pre wr ∧ pre.length + r.length ≤ n0.length ∧ Hid (labS n0 = (labS r).map (pre ++ ·))

theorem str_lt {l : Bs} {k : Nat} (h : k < l.length) : (str l).data[k]? = some (l.getD k 0) := by simp [str, h]

set_option maxRecDepth 100000 in
set_option maxHeartbeats 4000000 in
theorem all1_in (k l q : Nat) (n0 : Bs) (J : List Bs → World → Prop) (Jx : World → Prop) (hk : 1 ≤ k) (hset : ∀ pre W v, J pre W → J pre (W.setCell ⟨q, 0, none⟩ v)) (hdrew : ∀ pre W m, J pre W → J pre (W.drewN m))
    (hY : ∀ pre x W, J pre W → pre.length < n0.length → x.length ≤ 63 → YieldAt Fence.wide (k - 1) Try.prog l #[.string (str x), .bool true] W fun e W' => e = .returned (.bool true) ∧ J (pre ++ [x]) W' ∧ W'.cell? ⟨q, 0, none⟩ = W.cell? ⟨q, 0, none⟩ ∧ W'.frozen? ⟨q, 0, none⟩ = W.frozen? ⟨q, 0, none⟩)
    (hN : ∀ pre W, J pre W → YieldAt Fence.wide (k - 1) Try.prog l #[.string ⟨#[]⟩, .bool false] W fun e W' => e = .returned (.bool false) ∧ Jx W')
    (W : World) (hq : W.cell? ⟨q, 0, none⟩ = some (.string (str n0))) (hf : W.frozen? ⟨q, 0, none⟩ = false) (h0 : J [] W) (hlen : n0.length ≤ 9223372036854775807) :
    CallsIn Fence.wide k Try.prog 69 #[.func (.yield l) #[] #[], .pointer (some ⟨q, 0, none⟩)] W (Went J Jx n0) := by
  refine callsIn_of_wp Try.func69 rfl trivial ?_ rfl
  simp only [Try.ntmps69, List.size_toArray, List.length_cons, List.length_nil, Nat.reduceAdd, Nat.reduceSub, Array.replicate_succ, Array.replicate_zero, List.push_toArray, List.append_toArray, List.nil_append, List.cons_append]
  have HY := hid hY
  have HN := hid hN
  have HS := hid hset
  have HD := hid hdrew
  clear hY hN hset hdrew
  gi_wp2
  gi_loopw [] (fun wr => AllRel n0 q J wr) (fun wr => match wr.cell? ⟨q, 0, none⟩ with | some (.string s) => s.size | _ => 0)
  case atStart => exact ⟨[], n0, hq, hf, h0, by simp, hid (by simp)⟩
  case round =>
    obtain ⟨pre, r, hc, hf, hj, hl, hlab⟩ := hrel
    obtain ⟨s, hs⟩ : ∃ s, s = str r := ⟨_, rfl⟩
    rw [← hs] at hc
    rcases r with _ | ⟨c, r⟩
    · have z1 : ((s.size : Int) == 0) = true := by rw [hs, str_size]; rfl
      have z2 : (s.toList == [0]) = false := by rw [hs, str_toList]; rfl
      clear hs
      gi_wp2
      gi_quiet (fail)
      obtain ⟨fn, tmps, assign, body, hy, hR⟩ := HN.out pre (wr.drewN nq) (HD.out _ _ _ hj)
      gi_wp2
      refine hR.mono ?_
      rintro e W3 ⟨rfl, hx⟩
      gi_wp2
      refine bodyPost_ret (results_none rfl _ _ _) rfl ?_
      exact ⟨⟨_, rfl⟩, .inl ⟨by rw [hlab.out, labS_nil]; rfl, hx⟩⟩
    · have hsz : s.size = r.length + 1 := by rw [hs, str_size]; rfl
      have hss : 0 < s.size := by omega
      have h0s : s[0]'hss = c := by subst hs; rfl
      have z1 : ((s.size : Int) == 0) = false := by rw [beq_eq_false_iff_ne]; omega
      by_cases c0 : c = 0
      · subst c0
        clear hsz
        rcases r with _ | ⟨d, r⟩
        · have z2 : (s.toList == [0]) = true := by rw [hs, str_toList]; rfl
          clear hs
          gi_wp2
          refine bodyPost_ret (results_none rfl _ _ _) rfl ?_
          exact ⟨⟨_, rfl⟩, .inr ⟨pre, by rw [hlab.out, labS_root]; simp, hj⟩⟩
        · have z2 : (s.toList == [0]) = false := by rw [hs, str_toList]; simp
          clear hs
          gi_wp2
          gi_quiet (fail)
          obtain ⟨fn, tmps, assign, body, hy, hR⟩ := HN.out pre (wr.drewN nq) (HD.out _ _ _ hj)
          gi_wp2
          refine hR.mono ?_
          rintro e W3 ⟨rfl, hx⟩
          gi_wp2
          refine bodyPost_ret (results_none rfl _ _ _) rfl ?_
          exact ⟨⟨_, rfl⟩, .inl ⟨by rw [hlab.out, labS_zero (by simp)]; rfl, hx⟩⟩
      · have z2 : (s.toList == [0]) = false := by rw [hs, str_toList]; simp [c0]
        have z3' : (c.toNat == 0) = false := by
          rw [beq_eq_false_iff_ne]; intro e; exact c0 (by rw [← UInt8.toNat_inj]; exact e)
        have z3 : ((c.toNat : Int) == 0) = false := by rw [beq_eq_false_iff_ne] at z3' ⊢; omega
        clear z3'
        by_cases c63 : 63 < c.toNat
        · have z4 : decide ((63 : Int) < (c.toNat : Int)) = true := by simp; omega
          clear hsz
          clear hs
          gi_wp2
          gi_quiet (fail)
          obtain ⟨fn, tmps, assign, body, hy, hR⟩ := HN.out pre (wr.drewN nq) (HD.out _ _ _ hj)
          gi_wp2
          refine hR.mono ?_
          rintro e W3 ⟨rfl, hx⟩
          gi_wp2
          refine bodyPost_ret (results_none rfl _ _ _) rfl ?_
          exact ⟨⟨_, rfl⟩, .inl ⟨by rw [hlab.out, labS_bad c0 (.inl c63)]; rfl, hx⟩⟩
        · have z4 : decide ((63 : Int) < (c.toNat : Int)) = false := by simp; omega
          by_cases cl : r.length < c.toNat
          · have z5 : decide (s.size ≤ c.toNat) = true := by simp; omega
            clear hsz
            clear hs
            gi_wp2
            gi_quiet (fail)
            obtain ⟨fn, tmps, assign, body, hy, hR⟩ := HN.out pre (wr.drewN nq) (HD.out _ _ _ hj)
            gi_wp2
            refine hR.mono ?_
            rintro e W3 ⟨rfl, hx⟩
            gi_wp2
            refine bodyPost_ret (results_none rfl _ _ _) rfl ?_
            exact ⟨⟨_, rfl⟩, .inl ⟨by rw [hlab.out, labS_bad c0 (.inr cl)]; rfl, hx⟩⟩
          · have z5 : decide (s.size ≤ c.toNat) = false := by simp; omega
            have he1 : s.extract 1 (1 + c.toNat) = str (r.take c.toNat) := by
              rw [hs]; apply ByteArray.ext; simp [str]
            have he2 : s.extract (1 + c.toNat) s.size = str (r.drop c.toNat) := by
              rw [hs]; apply ByteArray.ext; simp [str, ByteArray.size, Nat.add_comm 1]
              rw [List.take_of_length_le (by simp)]
            have HZ := hid hsz
            have hcs : c.toNat < s.size := by omega
            clear hsz hs
            have c256 := c.toNat_lt
            gi_wp2
            gi_quiet (fail)
            gi_wp2
            obtain ⟨fn, tmps, assign, body, hy, hR⟩ := HY.out pre (r.take c.toNat) (wr.drewN (nq + 1)) (HD.out _ _ _ hj) (by simp at hl; omega) (by rw [List.length_take]; omega)
            have hmx : Try.prog.follows .mixedOrders = true := by kernel_rfl
            have w0 : IntKind.i64.wrap (c.toNat : Int) = (c.toNat : Int) := IntWalk.i64_in _ (by omega)
            have w1 : IntKind.i64.wrap (1 + (c.toNat : Int)) = 1 + (c.toNat : Int) := IntWalk.i64_in _ (by omega)
            have w2 : (1 + (c.toNat : Int)).toNat = 1 + c.toNat := by omega
            have w3 : (0 : Int) ≤ 1 + (c.toNat : Int) := by omega
            have w4 : (1 : Int) ≤ 1 + (c.toNat : Int) := by omega
            have w5 : 1 + (c.toNat : Int) ≤ (s.size : Int) := by omega
            gi_region_with_o (refine hR.mono ?_; rintro e W3 ⟨rfl, hJ3, hq3, hf3⟩; have hc3 : W3.cell? ⟨q, 0, none⟩ = some (.string s) := by (rw [hq3]; exact hc))
            all_goals
              have hg3 : W3.frozen? ⟨q, 0, none⟩ = false := by rw [hf3]; exact hf
              clear hf3 hq3 hy hR
              gi_wp2
              gi_region_o
            all_goals
              have hj4 : J (pre ++ [r.take c.toNat]) (W3.setCell ⟨q, 0, none⟩ (.string (str (r.drop c.toNat)))).drew := HD.out _ _ 1 (HS.out _ _ _ hJ3)
              have hc4 : (W3.setCell ⟨q, 0, none⟩ (.string (str (r.drop c.toNat)))).drew.cell? ⟨q, 0, none⟩ = some (.string (str (r.drop c.toNat))) := World.cell?_setCell_same' _ _ _ (by rw [hc3]; rfl)
              have hf4 : (W3.setCell ⟨q, 0, none⟩ (.string (str (r.drop c.toNat)))).drew.frozen? ⟨q, 0, none⟩ = false := by
                show (W3.setCell ⟨q, 0, none⟩ (.string (str (r.drop c.toNat)))).frozen? ⟨q, 0, none⟩ = false
                rw [World.frozen?_setCell]; exact hg3
              clear w0 w1 w2 w3 w4 w5 hc3 hg3 hJ3
              go_roundw
              case rel =>
                have hrel : AllRel n0 q J (W3.setCell ⟨q, 0, none⟩ (.string (str (r.drop c.toNat)))).drew := by
                  refine ⟨pre ++ [r.take c.toNat], r.drop c.toNat, hc4, hf4, hj4, by simp at hl ⊢; omega, hid ?_⟩
                  rw [hlab.out, labS_go c0 (by omega) (by omega), Option.map_map]
                  congr 1
                  funext L
                  simp
                repeat apply Exists.intro
                exact ⟨hrel, rfl⟩
              case measure =>
                rw [hc4, hc]
                simp only [str_size, List.length_drop, HZ.out]
                omega
end Go.Proofs.Ytcddfenhkljpeaa

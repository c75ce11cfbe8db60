/- Layer 23: CacheOldest. -/
import Derived.Test.YtcddfenhkljpeaaChcU
import Derived.Test.YtcddfenhkljpeaaKPick
import Derived.Test.YtcddfenhkljpeaaKStep
namespace Go.Proofs.Ytcddfenhkljpeaa
open Go.BK Go.BK.CH Go.BK.NM Go.RowKit Go.Maps
set_option linter.unusedVariables false
set_option linter.unusedSimpArgs false
theorem info_parts {o : Option TypeInfo} {z : Option Value} {s b : Nat} (h : o.map (fun i => (i.zero, i.size, i.bytes)) = some (z, s, b)) : ∃ i, o = some i ∧ i.zero = z ∧ i.size = s ∧ i.bytes = b := by
  cases o with
  | none => cases h
  | some i => simp at h; exact ⟨i, rfl, h.1, h.2.1, h.2.2⟩
theorem info_int : (Try.prog.info? 3).map (fun i => (i.zero, i.size, i.bytes)) = some (some (.int .i64 0), 1, 8) := by kernel_rfl
def isI (v : Value) : Prop := ∃ n : Int, v = .int .i64 n
theorem isI.one {v : Value} (h : isI v) : v.oneCell' = true := by obtain ⟨n, rfl⟩ := h; rfl
def natsV (l : List Nat) : List Value := l.map fun n : Nat => .int .i64 (n : Int)
theorem natsV_app (l : List Nat) (n : Nat) : natsV l ++ [.int .i64 (n : Int)] = natsV (l ++ [n]) := by simp [natsV]
theorem natsV_at {w : World} {A : Option Addr} {c : Nat} {l : List Nat} (h : RdG w 1 A l.length c (natsV l)) (h0 : 0 < l.length) : ∃ b o, A = some ⟨b, o, none⟩ ∧ b < w.heap.size ∧ ∀ k, k < l.length → w.cell? ⟨b, o + k, none⟩ = some (.int .i64 (l.getD k 0 : Nat)) := by
  obtain ⟨b, o, hA, hb, hc⟩ := h.2.2.2 h0
  exact ⟨b, o, hA, hb, fun k hk => hc k _ (by simp [natsV, hk])⟩
theorem rdI_sh {w w' : World} {A : Option Addr} {c : Nat} {l : List Int} (h : RdI w A c l) (hs : Shy (fun j => w.heap.size ≤ j) w w') (h0 : 0 < l.length) :
    ∃ b o, A = some ⟨b, o, none⟩ ∧ ∀ k, k < l.length → w'.cell? ⟨b, o + k, none⟩ = some (.int .i64 (l.getD k 0)) ∧ (-9223372036854775808 ≤ l.getD k 0 ∧ l.getD k 0 ≤ 9223372036854775807) := by
  obtain ⟨b, o, hA, hlt, hc⟩ := h.1.2.2.2 h0
  have hb : Below w.heap.size w w' := hs.below (Nat.le_refl _) (fun k hk e => by omega)
  refine ⟨b, o, hA, fun k hk => ⟨(hb.cell (p := ⟨b, o + k, none⟩) hlt).trans (hc k _ (by simp [hk])), ?_⟩⟩
  have h2 : l.getD k 0 ∈ l := by simp [List.getD, hk]
  exact h.2 _ h2
/-- A cache, and a line of numbers in memory of its own. -/
def Uo (B : Nat) (w : World) (A : Option Addr) (j : Nat) : Prop := B ≤ j ∧ j < w.heap.size ∧ blk A ≠ some j
structure LineC (w0 w : World) (B g : Nat) (most : Int) (s : StC) (A : Option Addr) (c : Nat) (l : List Nat) : Prop where
  q : Qc (Uo B w A) w g most s
  o : OwnG isI w B 3 1 A l.length c (natsV l)
  z : Shy (fun k => B ≤ k) w0 w
  b : B ≤ w.heap.size
section
variable {w0 w w' : World} {B g : Nat} {most : Int} {s s' : StC} {A A' : Option Addr} {c c' : Nat} {l l' : List Nat}
theorem LineC.ext (h : LineC w0 w B g most s A c l) (e : Ext w w') : LineC w0 w' B g most s A c l :=
  ⟨(h.q.ext e).mono fun j hj u => ⟨u.1, Nat.lt_of_lt_of_le u.2.1 e.size, u.2.2⟩, h.o.ext e, h.z.ext e, Nat.le_trans h.b e.size⟩
theorem LineC.get (h : LineC w0 w B g most s A c l) (q : Qc (Uo B w A) w' g most s') (e : Shy (Uo B w A) w w') : LineC w0 w' B g most s' A c l :=
  ⟨q.mono fun j hj u => ⟨u.1, Nat.lt_of_lt_of_le u.2.1 e.size, u.2.2⟩, e.ownG h.o fun k hk u => u.2.2 hk, h.z.trans e fun k _ u => u.1, Nat.le_trans h.b e.size⟩
theorem LineC.put (h : LineC w0 w B g most s A c l) (q : Qc (More (Uo B w A) w) w' g most s') (e : Shy (Uo B w A) w w') : LineC w0 w' B g most s' A c l := by
  refine ⟨q.mono fun j hj u => ?_, e.ownG h.o fun k hk u => u.2.2 hk, h.z.trans e fun k _ u => u.1, Nat.le_trans h.b e.size⟩
  rcases u with u | u
  · exact ⟨u.1, hj, u.2.2⟩
  · exact ⟨Nat.le_trans h.b u, hj, fun e => by have := (h.o.lt j e).2; omega⟩
theorem LineC.app (h : LineC w0 w B g most s A c l) (o : OwnG isI w' B 3 1 A' l'.length c' (natsV l')) (e : w.grownBy w' (blk A)) (n : ∀ b, blk A' = some b → blk A = some b ∨ w.heap.size ≤ b) : LineC w0 w' B g most s A' c' l' := by
  refine ⟨(h.q.shy (shy_of_grown e) fun k hk u e => u.2.2 e).mono fun j hj u => ⟨u.1, hj, fun e => ?_⟩, o, h.z.trans (shy_of_grown e) fun k hk u => (h.o.lt k u).1, Nat.le_trans h.b e.size⟩
  rcases n j e with n | n
  · exact u.2.2 n
  · have := u.2.1
    omega
/-- Another line, all of new memory. -/
theorem LineC.anew (h : LineC w0 w B g most s A c l) (e : Ext w w') (o : OwnG isI w' w.heap.size 3 1 A' l'.length c' (natsV l')) : LineC w0 w' B g most s A' c' l' :=
  ⟨(h.q.ext e).mono fun j hj u => ⟨u.1, hj, fun e => by have := (o.lt j e).1; have := u.2.1; omega⟩, o.mono h.b, h.z.ext e, Nat.le_trans h.b e.size⟩
end
theorem field_kind (k : Int) (n : ByteArray) (a b c : Int) (A : Option Addr) (m d : Nat) (l : Int) (w : World) : (Instr.field 37 (.agg #[.int .i64 k, .string n, .int .i64 a, .int .i64 b, .int .i64 c, .slice A m d, .int .i64 l]) 0).run Try.prog w = .ok (.int .i64 k) w := by
  kernel_rfl
def restL (l : List Nat) (k j : Nat) : List Nat := (l.take j).filter (fun i => !decide (i = k))
theorem restL_yes {l : List Nat} {k j : Nat} (hj : j < l.length) (h : l.getD j 0 ≠ k) : restL l k (j + 1) = restL l k j ++ [l.getD j 0] := by
  unfold restL
  have e : l.getD j 0 = l[j] := by simp [hj]
  rw [e] at h ⊢
  rw [List.take_succ_eq_append_getElem hj, List.filter_append]
  simp [h]
theorem restL_no {l : List Nat} {k j : Nat} (hj : j < l.length) (h : l.getD j 0 = k) : restL l k (j + 1) = restL l k j := by
  unfold restL
  have e : l.getD j 0 = l[j] := by simp [hj]
  rw [e] at h
  rw [List.take_succ_eq_append_getElem hj, List.filter_append]
  simp [h]
theorem restL_len (l : List Nat) (k j : Nat) : (restL l k j).length ≤ l.length := Nat.le_trans (List.length_filter_le _ _) (by rw [List.length_take]; omega)
theorem restL_all (l : List Nat) (k : Nat) : restL l k l.length ++ [k] = moveL l k := by
  unfold restL moveL
  rw [List.take_length]
def OpRel (w0 : World) (B g n : Nat) (ln i : Value) (wr : World) : Prop :=
  ∃ (k : Nat) (A : Option Addr) (c : Nat), k ≤ n ∧ i = .int .i64 k ∧ ln = .slice A k c ∧ LineC w0 wr B g n (stO k) A c (List.range k)
def OgRel (w0 : World) (B g n m : Nat) (ln i : Value) (wr : World) : Prop :=
  ∃ (k : Nat) (A : Option Addr) (c : Nat) (s : StC) (l : List Nat), k ≤ m ∧ i = .int .i64 k ∧ ln = .slice A n c ∧ LineC w0 wr B g n s A c l ∧ OldS l s ∧ LineO n l
def OrRel (wi : World) (n : Nat) (l : List Nat) (k : Nat) (rest i : Value) (wr : World) : Prop :=
  ∃ (j : Nat) (A : Option Addr) (c : Nat), j ≤ n ∧ i = .int .i64 j ∧ rest = .slice A (restL l k j).length c ∧ OwnG isI wr wi.heap.size 3 1 A (restL l k j).length c (natsV (restL l k j)) ∧ Ext wi wr
def OhRel (wi : World) (n : Nat) (i : Value) (wr : World) : Prop :=
  ∃ (j : Nat), j ≤ n ∧ i = .int .i64 j ∧ Ext wi wr
set_option maxHeartbeats 8000000 in
set_option maxRecDepth 100000 in
theorem oldest_walk {A : Option Addr} {c : Nat} {l : List Int} (m0 : Int) (w : World) (h1 : -9223372036854775808 ≤ m0 ∧ m0 ≤ 9223372036854775807) (hl : RdI w A c l) :
    Calls Try.prog 6 #[.int .i64 m0, .slice A l.length c] w fun e w' => e = .returned (.bool true) ∧ Below w.heap.size w w' := by
  obtain ⟨B, hB⟩ : ∃ B, w.heap.size = B := ⟨_, rfl⟩
  rw [hB]
  have HB := hid hB
  have AW := awake_yes w
  rw [hB] at AW
  have AW := hid AW
  obtain ⟨m, hm⟩ : ∃ m, l.length = m := ⟨_, rfl⟩
  have hm9 := hl.1.n_le
  have HL := hid hl
  rw [hm] at hm9 ⊢
  have HM := hid hm
  have P0 := hid (fun W => pick_any m0 19 W h1 (by decide))
  obtain ⟨n, hn⟩ : ∃ n : Nat, 2 + pick m0 19 = n := ⟨(2 + pick m0 19).toNat, by have := pick_range m0 19 (by decide); omega⟩
  have rn : 2 ≤ n ∧ n ≤ 20 := by have := pick_range m0 19 (by decide); omega
  have en1 : wrap64 (2 + pick m0 19) = n := by rw [hn]; exact IntWalk.wrap64_in _ (by omega)
  have en2 : IntKind.i64.wrap (2 + pick m0 19) = n := by rw [hn]; exact IntWalk.i64_in _ (by omega)
  obtain ⟨i0, hi, hz0, hz1, hz2⟩ := info_parts info_int
  clear hB hl hm h1 hn
  go_enter Try.func6, Try.ntmps6
  go_wp2_with fail
  refine AW.out.mono ?_
  rintro e w0 ⟨rfl, x0⟩
  have X0 := hid x0
  have Z0 : Hid (Shy (fun k => B ≤ k) w w0) := hid (Shy.of_ext (by have := HB.out; subst this; exact x0))
  have hz00 : B ≤ w0.heap.size := by have h1 := HB.out; have h2 := x0.size; omega
  clear x0 AW
  go_wp2_with fail
  refine (P0.out _).mono ?_
  rintro e _ ⟨rfl, rfl⟩
  by_cases g1 : 100 < m
  · have i1 : decide ((100 : Int) < (m : Int)) = true := by simp; omega
    go_wp2_with fail
    go_ret
    exact ⟨rfl, X0.out⟩
  have i1 : decide ((100 : Int) < (m : Int)) = false := by simp; omega
  have hm100 : m ≤ 100 := by omega
  clear g1 P0
  have C0 := c_new n w0 (by omega)
  simp only [pt] at C0
  have C0 := hid C0
  go_wp2_with fail
  refine C0.out.mono ?_
  rintro e w1 ⟨g, rfl, q1, x1⟩
  have L1 : Hid (LineC w w1 B g n (stO 0) none 0 (List.range 0)) := hid ⟨q1.mono (fun k h e => ⟨by omega, h, by simp⟩), by simpa [natsV] using OwnG.nil _ _ _ _ _, Z0.out.ext x1, by have h2 := x1.size; omega⟩
  clear q1 x1 C0 i1 en1 en2
  go_wp2_with fail
  go_loopw [8, 9] (fun ln i wr => OpRel w B g n ln i wr) (fun _ i _ => n - (intOf i).toNat)
  case atStart => exact ⟨0, none, 0, Nat.zero_le _, rfl, rfl, L1.out⟩
  case round =>
    obtain ⟨k, A1, c1, hk, rfl, rfl, hln⟩ := hrel
    by_cases hlt : k < n
    · have i1 : (k : Int) < (n : Int) := by omega
      have CP := c_putnone hln.q (n := [1, 97, 0]) (kind := 1 + (k : Int)) (ttl := 1000) (at_ := 5) (by decide) (by decide +kernel) (by decide) (by omega) (by decide)
      rw [put_o hlt rn.2] at CP
      simp only [pt] at CP
      have CP := hid CP
      have LN := hid hln
      clear hln
      go_wp2_with fail
      refine (a_in _).mono ?_
      rintro e _ ⟨rfl, rfl⟩
      go_wp2_with fail
      with_reducible refine CP.out.mono ?_
      rintro e w2 ⟨rfl, q2, s2⟩
      have L2 := LN.out.put q2 s2
      have ow := L2.o
      rw [show (List.range k).length = k from List.length_range] at ow
      have hb2 := L2.b
      have L2 := hid L2
      clear q2 s2 CP LN
      go_wp2_with (at_builtin; go_must (refine wpList_append_1' rfl (.tmp 51) (.tmp 53) 22 rfl B 3 i0 (.int .i64 0) 8 Try.underlying22 hi hz0 hz1 hz2 rfl ⟨0, rfl⟩ (fun _ h => h.one) rfl ow (.int .i64 (k : Int)) (by rfl) ⟨_, rfl⟩ (by omega) (by unfold maxLen; omega) hb2 ?_); intro A5 c5 w5 o5 g5 x5 n5; have L5 : Hid (LineC w w5 B g n (stO (k + 1)) A5 c5 (List.range (k + 1))) := hid (L2.out.app (by rw [List.length_range, List.range_succ, ← natsV_app]; exact o5) g5 n5); clear o5 g5 x5 n5 ow hb2)
      go_roundw
      case rel => exact ⟨k + 1, A5, c5, hlt, by go_num, rfl, L5.out⟩
      case measure => simp [intOf]; omega
    · obtain rfl : k = n := by omega
      obtain ⟨wa, hwa⟩ : ∃ wa, wa = wr := ⟨_, rfl⟩
      subst hwa
      have LN := hid hln
      clear hln hk L1
      go_wp2_with fail
      go_loopw [8, 12] (fun ln i wr => OgRel w B g k m ln i wr) (fun _ i _ => m - (intOf i).toNat)
      case atStart => exact ⟨0, A1, c1, _, _, Nat.zero_le _, rfl, rfl, LN.out, old_in rn.1, lineO_range k⟩
      case round =>
        obtain ⟨q, A2, c2, s, ll, hq, rfl, rfl, hln, hos, hlo⟩ := hrel
        by_cases hqm : q < m
        · have i1 : (q : Int) < (m : Int) := by omega
          obtain ⟨b, o, rfl, hc⟩ := rdI_sh HL.out (by rw [HB.out]; exact hln.z) (by rw [HM.out]; omega)
          obtain ⟨c0, y0⟩ := hc q (by rw [HM.out]; exact hqm)
          obtain ⟨z0, e0⟩ : ∃ z, l.getD q 0 = z := ⟨_, rfl⟩
          rw [e0] at c0 y0
          have PK := hid (fun W => pick_any z0 k W y0 (by omega))
          obtain ⟨y, hy⟩ : ∃ y : Nat, pick z0 k = y := ⟨(pick z0 k).toNat, by have := pick_range z0 k (by omega); omega⟩
          have ry : y < k := by have := pick_range z0 k (by omega); omega
          rw [hy] at PK
          have hmem : y ∈ ll := (hlo.2 y).2 ry
          have hlen := lineO_len hlo
          have CG := c_get hln.q (n := [1, 97, 0]) (kind := 1 + (y : Int)) (rank := 3) (at_ := 5) (by decide) (by decide +kernel) (by decide) (by omega)
          have GO := get_o hos hmem
          rw [GO.1] at CG
          have CG : Hid (Calls Try.prog 15 #[.pointer (some ⟨g, 0, none⟩), .string (str [1, 97, 0]), .int .i64 (1 + (y : Int)), .int .i64 3, .int .i64 5] wr fun e w' =>
              ∃ A c, e = .returned (.agg #[.int .i64 2, .string (str []), .int .i64 0, .int .i64 0, .int .i64 0, .slice A 0 c, .int .i64 1000]) ∧ Qc (Uo B wr A2) w' g k _ ∧ Shy (Uo B wr A2) wr w') := hid (CG.mono fun e w' ⟨A, c, he, ho, hq, hs⟩ => ⟨A, c, he, hq, hs⟩)
          have GO := hid GO.2
          have LN := hid hln
          have HOS := hid hos
          have HLO := hid hlo
          have HLEN := hid hlen
          clear hln hos hlo hc e0 y0 hy hmem hlen
          go_wp2_with fail
          refine (PK.out _).mono ?_
          rintro e _ ⟨rfl, rfl⟩
          go_wp2_with fail
          refine (a_in _).mono ?_
          rintro e _ ⟨rfl, rfl⟩
          go_wp2_with fail
          with_reducible refine CG.out.mono ?_
          rintro e w2 ⟨A3, c3, rfl, q3, s3⟩
          have L2 := hid (LN.out.get q3 s3)
          clear q3 s3 CG LN
          have fk := fun W => field_kind 2 (str []) 0 0 0 A3 0 c3 1000 W
          go_wp2_with fail
          clear fk
          go_loopw [14, 15] (fun rest i wr => OrRel w2 k ll y rest i wr) (fun _ i _ => k - (intOf i).toNat)
          case atStart => exact ⟨0, none, 0, Nat.zero_le _, rfl, rfl, OwnG.nil _ _ _ _ _, ext_refl _⟩
          case round =>
            obtain ⟨j, A5, c5, hj, rfl, rfl, ow, x⟩ := hrel
            by_cases hjk : j < k
            · have j1 : (j : Int) < (k : Int) := by omega
              have hjl : j < ll.length := by rw [HLEN.out]; exact hjk
              obtain ⟨b2, o2, rfl, hb2, hc2⟩ := natsV_at (by rw [HLEN.out]; have := (L2.out.o.rd).ext x; rwa [HLEN.out] at this) (by rw [HLEN.out]; omega)
              have c2 := hc2 j hjl
              obtain ⟨z, hz⟩ : ∃ z, ll.getD j 0 = z := ⟨_, rfl⟩
              rw [hz] at c2
              have hx : Ext w2 wr := x
              have hsz := hx.size
              have rl := restL_len ll y j
              rw [HLEN.out] at rl
              by_cases hzy : z = y
              · have RR := restL_no hjl (hz.trans hzy)
                have n1 : ((z : Int) == (y : Int)) = true := by simp [hzy]
                have n2 : ((z : Int) != (y : Int)) = false := by simp [hzy]
                have REL : OrRel w2 k ll y (.slice A5 (restL ll y j).length c5) (.int .i64 ((j : Int) + 1)) wr := ⟨j + 1, A5, c5, hjk, by go_num, by rw [RR], by rw [RR]; exact ow, x⟩
                have REL := hid REL
                clear ow x hx RR hz hzy hc2
                go_wp2_with fail
                go_roundw
                case rel => exact REL.out
                case measure => simp [intOf]; omega
              · have RR := restL_yes (k := y) hjl (by rw [hz]; exact hzy)
                rw [hz] at RR
                have n1 : ((z : Int) == (y : Int)) = false := by simp; omega
                have n2 : ((z : Int) != (y : Int)) = true := by simp; omega
                obtain ⟨q0, hq0⟩ : ∃ q0, restL ll y j = q0 := ⟨_, rfl⟩
                rw [hq0] at RR ow rl ⊢
                have RR := hid RR
                have X := hid x
                clear x hx hz hzy hc2 hq0
                go_wp2_with (at_builtin; go_must (refine wpList_append_1' rfl (.tmp 86) (.tmp 91) 22 rfl w2.heap.size 3 i0 (.int .i64 0) 8 Try.underlying22 hi hz0 hz1 hz2 rfl ⟨0, rfl⟩ (fun _ h => h.one) rfl ow (.int .i64 (z : Int)) (by rfl) ⟨_, rfl⟩ (by omega) (by unfold maxLen; omega) hsz ?_); intro A6 c6 w6 o6 g6 x6 n6; have REL : Hid (OrRel w2 k ll y (.slice A6 (q0.length + 1) c6) (.int .i64 ((j : Int) + 1)) w6) := hid ⟨j + 1, A6, c6, hjk, by go_num, by rw [RR.out, List.length_append]; rfl, by rw [RR.out, List.length_append]; rw [natsV_app] at o6; exact o6, below_of_grown X.out hsz g6 (fun g hg => (ow.lt g hg).1)⟩; clear o6 g6 x6 n6 ow hsz)
                go_roundw
                case rel => exact REL.out
                case measure => simp [intOf]; omega
            · obtain rfl : j = k := by omega
              have RA : restL ll y j ++ [y] = moveL ll y := by rw [← restL_all, HLEN.out]
              have rl := restL_len ll y j
              rw [HLEN.out] at rl
              obtain ⟨q0, hq0⟩ : ∃ q0, restL ll y j = q0 := ⟨_, rfl⟩
              rw [hq0] at RA ow rl ⊢
              have RA := hid RA
              have X := hid x
              have hsz := x.size
              clear x hq0
              have hml : q0.length + 1 = j := by
                have h1 := lineO_len (lineO_move HLO.out ry)
                rw [← RA.out, List.length_append] at h1
                exact h1
              have HML := hid hml
              clear hml
              go_wp2_with (at_builtin; go_must (refine wpList_append_1' rfl (.tmp 93) (.tmp 95) 22 rfl w2.heap.size 3 i0 (.int .i64 0) 8 Try.underlying22 hi hz0 hz1 hz2 rfl ⟨0, rfl⟩ (fun _ h => h.one) rfl ow (.int .i64 (y : Int)) (by rfl) ⟨_, rfl⟩ (by omega) (by unfold maxLen; omega) hsz ?_); intro A6 c6 w6 o6 g6 x6 n6; have L6 : Hid (LineC w w6 B g j _ A6 c6 (moveL ll y)) := hid (L2.out.anew (below_of_grown X.out hsz g6 (fun g hg => (ow.lt g hg).1)) (by rw [← RA.out, List.length_append]; rw [natsV_app] at o6; exact o6)); clear o6 g6 x6 n6 ow hsz)
              go_roundw
              case rel => exact ⟨q + 1, A6, c6, _, _, hqm, by go_num, by rw [HML.out], L6.out, GO.out, lineO_move HLO.out ry⟩
              case measure => simp [intOf]; omega
        · obtain rfl : q = m := by omega
          have hlen := lineO_len hlo
          obtain ⟨p1, p2, p3⟩ := put_last hos hlo rn.2 rn.1
          obtain ⟨x0, hx0⟩ : ∃ x0, ll.getD 0 0 = x0 := ⟨_, rfl⟩
          rw [hx0] at p3
          obtain ⟨wb, hwb⟩ : ∃ wb, wb = wr := ⟨_, rfl⟩
          subst hwb
          have CP := c_putnone hln.q (n := [1, 97, 0]) (kind := 1000) (ttl := 1000) (at_ := 5) (by decide) (by decide +kernel) (by decide) (by decide) (by decide)
          obtain ⟨sf, hsf⟩ : ∃ sf, putNoneS k s [1, 97, 0] 1000 1000 5 = sf := ⟨_, rfl⟩
          rw [hsf] at CP p1 p2 p3
          simp only [pt] at CP
          have CP := hid CP
          have LN := hid hln
          have HLEN := hid hlen
          have HX0 := hid hx0
          have P1 := hid p1
          have P2 := hid p2
          have P3 := hid p3
          clear hln hos hlo hlen hx0 p1 p2 p3 hsf hq
          go_wp2_with fail
          refine (a_in _).mono ?_
          rintro e _ ⟨rfl, rfl⟩
          go_wp2_with fail
          with_reducible refine CP.out.mono ?_
          rintro e w2 ⟨rfl, q2, s2⟩
          have L2 := hid (LN.out.put q2 s2)
          clear q2 s2 CP LN
          go_wp2_with fail
          go_loopw [16] (fun i wr => OhRel w2 k i wr) (fun i _ => k - (intOf i).toNat)
          case atStart => exact ⟨0, Nat.zero_le _, rfl, ext_refl _⟩
          case round =>
            obtain ⟨j, hj, rfl, x⟩ := hrel
            by_cases hjk : j < k
            · have j1 : (j : Int) < (k : Int) := by omega
              obtain ⟨b2, o2, rfl, hb2, hc2⟩ := natsV_at (by rw [HLEN.out]; have := L2.out.o.rd; rwa [HLEN.out] at this) (by rw [HLEN.out]; omega)
              have c2 := hc2 0 (by rw [HLEN.out]; omega)
              rw [HX0.out] at c2
              obtain ⟨bb, hbb⟩ : ∃ bb, decide (j ≠ x0) = bb := ⟨_, rfl⟩
              have CH := fun W (e : Ext w2 W) => c_has (L2.out.q.ext e) (n := [1, 97, 0]) (kind := 1 + (j : Int)) (by decide) (by omega)
              rw [P3.out j hjk, hbb] at CH
              simp only [pt] at CH
              have CH := hid CH
              have n2 : ((j : Int) != (x0 : Int)) = bb := by
                rw [← hbb]
                by_cases h : j = x0
                · simp [h]
                · have : (j : Int) ≠ (x0 : Int) := by omega
                  simp [h, this]
              have cc := c2
              simp only [Nat.add_zero] at c2
              have c3 : wr.cell? ⟨b2, o2, none⟩ = some (.int .i64 (x0 : Nat)) := (x.cell (p := ⟨b2, o2, none⟩) hb2).trans c2
              have X := hid x
              have hk0 : 0 < k := by omega
              have KEEP : Hid (∀ W, Ext wr W → W.cell? ⟨b2, o2, none⟩ = some (.int .i64 (x0 : Nat))) := hid (fun W y => (y.cell (p := ⟨b2, o2, none⟩) (by have := X.out.size; show b2 < _; omega)).trans c3)
              clear x hbb c2 hc2 cc
              go_upto_region 33 with (fail)
              have wp1 : wrap64 (1 + (j : Int)) = 1 + (j : Int) := IntWalk.wrap64_in _ (by omega)
              have wp2 : IntKind.i64.wrap (1 + (j : Int)) = 1 + (j : Int) := IntWalk.i64_in _ (by omega)
              go_region_held3 (fun W => W.cell? ⟨b2, o2, none⟩ = some (.int .i64 (x0 : Nat))) (first | exact KEEP.out _ (ext_refl _) | exact KEEP.out _ (ext_drew _) | go_keep) ((first | (go_at_call 16; refine (a_in _).mono ?_; rintro e _ ⟨rfl, rfl⟩) | (go_at_call 19; with_reducible refine (CH.out wr.drew (ext_trans X.out (ext_drew _))).mono ?_; rintro e w7 ⟨rfl, x7⟩; have X7 := hid (ext_trans (ext_drew wr) x7); have c7 : w7.cell? ⟨b2, o2, none⟩ = some (.int .i64 (x0 : Nat)) := KEEP.out _ X7.out; clear x7)))
              have REL : OhRel w2 k (.int .i64 ((j : Int) + 1)) w7 := ⟨j + 1, hjk, by go_num, ext_trans X.out X7.out⟩
              have REL := hid REL
              have bn : (bb != bb) = false := by simp
              clear c7 wp1 wp2 X7
              go_wp2_with fail
              go_roundw
              case rel => exact REL.out
              case measure => simp [intOf]; omega
            · obtain rfl : j = k := by omega
              have CL := c_len (L2.out.q.ext x)
              rw [P1.out] at CL
              have CH := c_has (L2.out.q.ext x) (n := [1, 97, 0]) (kind := 1000) (by decide) (by decide)
              rw [P2.out] at CH
              simp only [pt] at CL CH
              have CL := hid CL
              have CH := hid CH
              have Z := hid (L2.out.z.ext x)
              clear x
              go_wp2_with fail
              refine CL.out.mono ?_
              rintro e _ ⟨rfl, rfl⟩
              go_wp2_with fail
              refine (a_in _).mono ?_
              rintro e _ ⟨rfl, rfl⟩
              go_wp2_with fail
              refine CH.out.mono ?_
              rintro e w9 ⟨rfl, x9⟩
              go_wp2_with fail
              go_ret
              exact ⟨rfl, (Z.out.ext x9).below (by have := HB.out; omega) (fun k hk e => by omega)⟩
end Go.Proofs.Ytcddfenhkljpeaa

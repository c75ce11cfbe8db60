/- name.Parse: the name of a text, or the fault. -/
import Derived.Test.YtcgcadhnecakaaaParB
import Derived.Test.YtcgcadhnecakaaaNamJ
import Derived.Recover
import Derived.Laws.Panics
namespace Go.Proofs.Ytcgcadhnecakaaa
open Go.BK Go.RowKit Go.BK.NM
set_option linter.unusedVariables false

theorem pa_assert (v : Value) (W : World) : (Instr.typeAssert (.iface 65 v) 20 65 true).run Try.prog W = .ok (.tuple #[v, .bool true]) W := by
  simp [Instr.typeAssert, run_underlying Try.underlying65]
theorem pa_zero (W : World) : (zeroValue 65).run Try.prog W = .ok (.agg #[.int .i64 0, .int .i64 0]) W := by
  simp
theorem pa_assert_nil (W : World) : (Instr.typeAssert .nilIface 20 65 true).run Try.prog W = .ok (.tuple #[.agg #[.int .i64 0, .int .i64 0], .bool false]) W := by
  simp [Instr.typeAssert, run_underlying Try.underlying65, pa_zero]
theorem pc_frame (p q v : Value) : #[p, q] ++ ((Array.replicate 15 undef).setIfInBounds 3 v).setIfInBounds 0 v = #[p, q, v, undef, undef, v, undef, undef, undef, undef, undef, undef, undef, undef, undef, undef, undef] := rfl

set_option maxHeartbeats 1000000 in
theorem parse_catch (g1 g2 : Nat) (s0 a0 b0 : Value) (f : Flt) (older : List PanicEntry) (w : World) (h1 : Blk w g1 9 #[s0]) (h2 : Blk w g2 45 #[a0, b0]) (hne : g1 ≠ g2) :
    CallsD Try.prog 43 #[.pointer (some ⟨g1, 0, none⟩), .pointer (some ⟨g2, 0, none⟩)] (.panicking ({ v := wrongV f, recovered := false } :: older)) w fun e u' w' =>
      e = .returned (.tuple #[]) ∧ u' = .panicking ({ v := wrongV f, recovered := true } :: older) ∧ Blk w' g1 9 #[.string ⟨#[]⟩] ∧ Blk w' g2 45 #[.int .i64 f.1, .int .i64 f.2] ∧ Shy (fun k => k = g1 ∨ k = g2) w w' := by
  have c1 := h1.one
  have c2 := h2.two
  have ha := pa_assert (.agg #[.int .i64 f.1, .int .i64 f.2])
  unfold wrongV
  refine callsD_of_wpS Try.func43 rfl fun c₀ cs hu => ?_
  apply wpS_seq
  apply wpS_region
  simp [wpOpsS, go_sem, recoverD, hu, Try.ntmps43, Exit.thenS]
  rw [pc_frame]
  refine wpS_of_wp ?_
  go_wp2_with fail
  obtain ⟨w3, hw3⟩ : ∃ w3, w3 = w.alloc (.cells #[.int .i64 f.1, .int .i64 f.2] 65) := ⟨_, rfl⟩
  have e3 : Ext w w3 := by rw [hw3]; exact ext_alloc _ _
  have k1 := h1.ext e3
  have k2 := h2.ext e3
  have k3 : Blk w3 w.heap.size 65 #[.int .i64 f.1, .int .i64 f.2] := by rw [hw3]; exact Blk.new _ _ _
  have l1 := h1.lt
  have l2 := h2.lt
  rw [← hw3]
  clear hw3 c1 c2
  obtain ⟨c1, f1⟩ := k1.one
  obtain ⟨c2, c2', f2⟩ := k2.two
  obtain ⟨c3, c3', f3⟩ := k3.two
  obtain ⟨h, hh⟩ : ∃ h, h = w.heap.size := ⟨_, rfl⟩
  rw [← hh] at k3 c3 c3' f3 l1 l2 ⊢
  have K1 := hid k1
  have K2 := hid k2
  have E3 := hid e3
  have H1 := hid h1
  clear k1 k2 k3 hh e3 h1 h2
  have FIN : Blk ((((w3.setCell ⟨g1, 0, none⟩ (.string ⟨#[]⟩)).setCell ⟨g2, 0, none⟩ (.int .i64 f.1)).setCell ⟨g2, 1, none⟩ (.int .i64 f.2)).drew) g1 9 #[.string ⟨#[]⟩] ∧
      Blk ((((w3.setCell ⟨g1, 0, none⟩ (.string ⟨#[]⟩)).setCell ⟨g2, 0, none⟩ (.int .i64 f.1)).setCell ⟨g2, 1, none⟩ (.int .i64 f.2)).drew) g2 45 #[.int .i64 f.1, .int .i64 f.2] ∧
      Shy (fun k => k = g1 ∨ k = g2) w ((((w3.setCell ⟨g1, 0, none⟩ (.string ⟨#[]⟩)).setCell ⟨g2, 0, none⟩ (.int .i64 f.1)).setCell ⟨g2, 1, none⟩ (.int .i64 f.2)).drew) := by
    have q1 : Blk (w3.setCell ⟨g1, 0, none⟩ (.string ⟨#[]⟩)) g1 9 #[.string ⟨#[]⟩] := by simpa using K1.out.set_ 0 (.string ⟨#[]⟩)
    have q2 := K2.out.far (p := ⟨g1, 0, none⟩) (Ne.symm hne) (.string ⟨#[]⟩)
    have q3 := q2.set_ 0 (.int .i64 f.1)
    have q4 := q3.set_ 1 (.int .i64 f.2)
    refine ⟨(((q1.far (p := ⟨g2, 0, none⟩) hne _).far (p := ⟨g2, 1, none⟩) hne _)).drew, ?_, ?_⟩
    · simpa using q4.drew
    · have s1 : Shy (fun k => k = g1 ∨ k = g2) w w3 := Shy.of_ext E3.out
      have s2 := s1.grown (grown_of_set (grown_refl w3 (some g1)) (.inl rfl) 0 (.string ⟨#[]⟩)) (fun j hj _ => by cases hj; exact .inl rfl)
      have s3 := s2.grown (grown_of_set (grown_refl _ (some g2)) (.inl rfl) 0 (.int .i64 f.1)) (fun j hj _ => by cases hj; exact .inr rfl)
      have s4 := s3.grown (grown_of_set (grown_refl _ (some g2)) (.inl rfl) 1 (.int .i64 f.2)) (fun j hj _ => by cases hj; exact .inr rfl)
      exact s4.ext (ext_drew _)
  have HF := hid FIN
  clear FIN
  go_region
  all_goals (go_wp2_with fail)
  all_goals simp [bodyPostS, results, Try.results43]
  all_goals exact HF.out

set_option maxHeartbeats 1000000 in
theorem parse_idle (p1 p2 : Value) (w : World) :
    CallsD Try.prog 43 #[p1, p2] .returning w fun e u' w' => e = .returned (.tuple #[]) ∧ u' = .returning ∧ Ext w w' := by
  have ha := pa_assert_nil
  refine callsD_of_wpS Try.func43 rfl fun c₀ cs hu => ?_
  apply wpS_seq
  apply wpS_region
  simp [wpOpsS, go_sem, recoverD, hu, Try.ntmps43, Exit.thenS]
  rw [pc_frame]
  refine wpS_of_wp ?_
  go_wp2_with fail
  cases c₀
  simp_all [bodyPostS, results, Try.results43]
  exact ext_alloc _ _

def parseS (t : Bs) : Bs × Flt := if t = [] then ([], (4, 0)) else if t = [46] then ([0], (0, 0)) else match parG t.length t 0 with
  | .error f => ([], f)
  | .ok L => if (joinS L).2 = 0 then ((joinS L).1, (0, 0)) else ([], ((joinS L).2, 0))

def addL (L : List Bs) : Except Flt (List Bs) → Except Flt (List Bs)
  | .error f => .error f
  | .ok M => .ok (L ++ M)

theorem below_shy {w W W' : World} {U : Nat → Prop} {h : Nat} (x : Below h w W) (hz : h ≤ W.heap.size) (s : Shy U W W') (hU : ∀ k, U k → h ≤ k) : Below h w W' :=
  ⟨s.os.trans x.os, s.tape.trans x.tape, s.output.trans x.output, Nat.le_trans x.size s.size, fun k hk => (s.block k (Nat.lt_of_lt_of_le hk hz) (fun hu => by have := hU k hu; omega)).trans (x.block k hk)⟩
theorem ext_shy {w W W' : World} {U : Nat → Prop} {h : Nat} (hh : h = w.heap.size) (x : Below h w W) (s : Shy U W W') (hU : ∀ k, U k → h ≤ k) : Ext w W' := by
  subst hh
  exact below_shy x x.size s hU
/-- Between two rounds of Parse: h the heap's size ahead of all. -/
def ParRel (w : World) (h : Nat) (s : Bs) (wr : World) : Prop :=
  ∃ (k m : Nat) (L : List Bs), k ≤ s.length + 1 ∧ (s.drop k).length ≤ m ∧ L.length ≤ k ∧ Hid (ParP wr (h + 2) (h + 3) s k L) ∧ Hid (parG s.length s 0 = addL L (parG m (s.drop k) k)) ∧
    Hid (Blk wr h 9 #[.string ⟨#[]⟩]) ∧ Hid (Blk wr (h + 1) 45 #[.int .i64 0, .int .i64 0]) ∧ Hid (Below h w wr)

theorem par_start {w W : World} {h : Nat} {t z : ByteArray} (hh : h = w.heap.size) (hW : W = (((w.alloc (.cells #[.string z] 9)).alloc (.cells #[.int .i64 0, .int .i64 0] 45)).alloc (.cells #[.string t, .int .i64 0, .slice none 0 0] 71))) :
    Blk W h 9 #[.string z] ∧ Blk W (h + 1) 45 #[.int .i64 0, .int .i64 0] ∧ Blk W (h + 2) 71 #[.string t, .int .i64 0, .slice none 0 0] ∧ Ext w W ∧ W.heap.size = h + 3 := by
  subst hh
  subst hW
  refine ⟨((Blk.new w _ _).alloc _).alloc _, ?_, ?_, ext_trans (ext_alloc _ _) (ext_trans (ext_alloc _ _) (ext_alloc _ _)), by simp⟩
  · have := (Blk.new (w.alloc (.cells #[.string z] 9)) 45 #[.int .i64 0, .int .i64 0]).alloc (.cells #[.string t, .int .i64 0, .slice none 0 0] 71)
    simpa using this
  · have := Blk.new ((w.alloc (.cells #[.string z] 9)).alloc (.cells #[.int .i64 0, .int .i64 0] 45)) 71 #[.string t, .int .i64 0, .slice none 0 0]
    simpa using this
set_option maxHeartbeats 8000000 in
set_option maxRecDepth 100000 in
theorem parse_in (s : Bs) (w : World) (hs : s.length ≤ 90000) :
    Calls Try.prog 34 #[.string (str s)] w fun e w' => e = .returned (.tuple #[.string (str (parseS s).1), .agg #[.int .i64 (parseS s).2.1, .int .i64 (parseS s).2.2]]) ∧ Ext w w' := by
  have hmf : ∀ (fn : Fn) (first cap : Array Value) (w : World), (Instr.makeFunc fn first cap).run Try.prog w = .ok (.func fn first cap) w := fun _ _ _ _ => rfl
  obtain ⟨V, hV⟩ : ∃ V, V = parseS s := ⟨_, rfl⟩
  rw [← hV]
  have HV := hid hV
  clear hV
  have FA := hid (fun (p : Value) (e : Int) (q : Nat) (W : World) => fails_in p e q W)
  have F0 := hid (fun (p : Value) (e : Int) (W : World) => show Calls Try.prog 44 #[p, .int .i64 e, .int .i64 0] W fun x w' => x = thrown (e, 0) ∧ w' = W from fails_in p e 0 W)
  obtain ⟨t, ht⟩ : ∃ t, t = str s := ⟨_, rfl⟩
  have htz : t.size = s.length := by rw [ht, str_size]
  have HT := hid ht
  have HTZ := hid htz
  have tz9 : t.size ≤ 100000 := by omega
  obtain ⟨h, hh⟩ : ∃ h, h = w.heap.size := ⟨_, rfl⟩
  have HH := hid hh
  by_cases h0 : s = []
  · have hv : V = ([], (4, 0)) := by rw [HV.out]; unfold parseS; rw [if_pos h0]
    have z0 : (t.toList == []) = true := by rw [ht, str_toList, h0]; rfl
    have z0' : t.toList.isEmpty = true := by rw [ht, str_toList, h0]; rfl
    rw [← ht, hv]
    clear h0 ht htz hh
    go_enter_defers Try.func34, Try.ntmps34
    go_wp2_with fail
    obtain ⟨W3, hW3⟩ : ∃ W, W = (((w.alloc (.cells #[.string ⟨#[]⟩] 9)).alloc (.cells #[.int .i64 0, .int .i64 0] 45)).alloc (.cells #[.string t, .int .i64 0, .slice none 0 0] 71)) := ⟨_, rfl⟩
    obtain ⟨B1, B2, B3, X3, Z3⟩ := par_start HH.out hW3
    rw [← hW3]
    clear hW3
    (with_reducible refine (F0.out _ 4 _).mono ?_)
    rintro e w5 ⟨rfl, hw⟩
    subst hw
    unfold thrown
    go_wp2_with fail
    refine leaves_cons (f := 43) (args := #[.pointer (some ⟨w.heap.size, 0, none⟩), .pointer (some ⟨w.heap.size + 1, 0, none⟩)]) (by simp) (by simp [go_sem]) ?_
    rw [← HH.out]
    refine (parse_catch h (h + 1) _ _ _ _ [] _ B1 B2 (by omega)).mono ?_
    rintro e u' w6 ⟨rfl, rfl, K1, K2, SH⟩
    obtain ⟨c1, _⟩ := K1.one
    obtain ⟨c2, c3, _⟩ := K2.two
    simp [Leaves, settle, results, Try.results34, go_sem, c1, c2, c3]
    exact ⟨rfl, ext_shy HH.out (by rw [HH.out]; exact X3) SH (fun k hk => by rcases hk with hk | hk <;> omega)⟩
  · by_cases h1 : s = [46]
    · have hv : V = ([0], (0, 0)) := by rw [HV.out]; unfold parseS; rw [if_neg h0, if_pos h1]
      have z0 : (t.toList == []) = false := by rw [ht, str_toList, h1]; rfl
      have z0' : t.toList.isEmpty = false := by rw [ht, str_toList, h1]; rfl
      have z1 : (t.toList == [46]) = true := by rw [ht, str_toList, h1]; rfl
      rw [← ht, hv]
      clear h0 ht htz hh h1
      go_enter_defers Try.func34, Try.ntmps34
      go_wp2_with fail
      obtain ⟨W3, hW3⟩ : ∃ W, W = (((w.alloc (.cells #[.string ⟨#[0]⟩] 9)).alloc (.cells #[.int .i64 0, .int .i64 0] 45)).alloc (.cells #[.string t, .int .i64 0, .slice none 0 0] 71)) := ⟨_, rfl⟩
      obtain ⟨B1, B2, B3, X3, Z3⟩ := par_start HH.out hW3
      rw [← hW3]
      clear hW3
      refine leaves_cons (f := 43) (args := #[.pointer (some ⟨w.heap.size, 0, none⟩), .pointer (some ⟨w.heap.size + 1, 0, none⟩)]) (by simp) (by simp [go_sem]) ?_
      (try rw [← HH.out])
      refine (parse_idle _ _ _).mono ?_
      rintro e u' w6 ⟨rfl, rfl, x6⟩
      obtain ⟨c1, _⟩ := (B1).ext x6 |>.one
      obtain ⟨c2, c3, _⟩ := (B2).ext x6 |>.two
      simp [Leaves, settle, results, Try.results34, go_sem, c1, c2, c3]
      exact ⟨rfl, ext_shy HH.out (by rw [HH.out]; exact X3) (Shy.of_ext (U := fun _ => False) x6) (fun k hk => hk.elim)⟩
    · have z0 : (t.toList == []) = false := by rw [ht, str_toList, beq_eq_false_iff_ne]; exact h0
      have z0' : t.toList.isEmpty = false := by rw [ht, str_toList]; rcases s with _ | _; exact absurd rfl h0; rfl
      have z1 : (t.toList == [46]) = false := by rw [ht, str_toList, beq_eq_false_iff_ne]; exact h1
      have hv : V = match parG s.length s 0 with
        | .error f => ([], f)
        | .ok L => if (joinS L).2 = 0 then ((joinS L).1, (0, 0)) else ([], ((joinS L).2, 0)) := by rw [HV.out]; unfold parseS; rw [if_neg h0, if_neg h1]
      have HVV := hid hv
      rw [← ht]
      clear h0 ht htz hh h1 hv
      go_enter_defers Try.func34, Try.ntmps34
      go_wp2_with fail
      obtain ⟨W3, hW3⟩ : ∃ W, W = (((w.alloc (.cells #[.string ⟨#[]⟩] 9)).alloc (.cells #[.int .i64 0, .int .i64 0] 45)).alloc (.cells #[.string t, .int .i64 0, .slice none 0 0] 71)) := ⟨_, rfl⟩
      obtain ⟨B1, B2, B3, X3, Z3⟩ := par_start HH.out hW3
      rw [← hW3]
      clear hW3
      have P3 : ParP W3 (h + 2) (h + 3) s 0 [] := ⟨none, 0, by rw [← HT.out]; exact B3, OwnG.nil _ _ _ _ _, by omega, by omega⟩
      have HP3 := hid P3
      have HB1 := hid B1
      have HB2 := hid B2
      have HX3 := hid X3
      clear B1 B2 B3 X3 P3 Z3
      rw [← HH.out]
      go_loopw [] (fun wr => ParRel w h s wr) (fun wr => s.length + 1 - posOf (h + 2) wr)
      case atStart => exact ⟨0, s.length, [], by omega, by simp, Nat.zero_le _, HP3, hid (by rw [List.drop_zero]; rcases parG s.length s 0 with f | M <;> rfl), HB1, HB2, hid (by rw [HH.out]; exact HX3.out)⟩
      case round =>
        obtain ⟨k, m, L, hk, hm, hLk, PP, PG, B1, B2, XX⟩ := hrel
        obtain ⟨A, c, hB, hO, _, hbw⟩ := PP.out
        obtain ⟨rc, rf⟩ := hB.rules
        have c0 := rc 0
        have c1 := rc 1
        have c2 := rc 2
        simp only [List.getElem?_toArray, List.getElem?_cons_zero, List.getElem?_cons_succ] at c0 c1 c2
        rw [← HT.out] at c0
        have HB := hid hB
        have HO := hid hO
        clear rc hB hO
        by_cases hlt : k < s.length
        · have zlt : decide ((k : Int) < (t.size : Int)) = true := by rw [decide_eq_true_iff, HTZ.out]; omega
          have zlt' : decide (k < t.size) = true := by rw [decide_eq_true_iff, HTZ.out]; omega
          obtain ⟨d, r, hdr⟩ : ∃ d r, s.drop k = d :: r := by
            rcases hd : s.drop k with _ | ⟨d, r⟩
            · have := congrArg List.length hd; simp at this; omega
            · exact ⟨d, r, rfl⟩
          obtain ⟨m, rfl⟩ : ∃ m', m = m' + 1 := ⟨m - 1, by rw [hdr] at hm; simp at hm; omega⟩
          have CL := hid (fun (W : World) (hW : ParP W (h + 2) (h + 3) s k L) => label_in s k (h + 2) (h + 3) L W hW hlt (by omega) (by omega))
          have pg := PG.out
          rw [hdr, parG_step] at pg
          rw [hdr] at CL
          have HDR := hid hdr
          have hdl : (d :: r).length ≤ m + 1 := by rw [← hdr]; exact hm
          have hdl2 : (d :: r).length = s.length - k := by rw [← hdr]; simp
          clear hdr hm
          rcases hG : oneG (d :: r) k with f | ⟨b, e⟩
          · rw [hG] at pg CL
            have hv : V = ([], f) := by rw [HVV.out, pg]; rfl
            have HVF := hid hv
            clear pg hG hv
            go_wp2_with fail
            go_quiet (fail)
            go_wp2_with fail
            generalize hw2 : wr.drewN _ = w2
            have e2 : Ext wr w2 := by rw [← hw2]; exact ext_drewN _ _
            clear hw2
            have P2 : ParP w2 (h + 2) (h + 3) s k L := ⟨A, c, HB.out.ext e2, HO.out.ext e2, by omega, Nat.le_trans hbw e2.size⟩
            (with_reducible refine (CL.out _ P2).mono ?_)
            rintro x w5 ⟨rfl, SH5⟩
            unfold thrown
            go_wp2_with fail
            have K1 := (SH5.block h (by have := B1.out.lt; have := e2.size; omega) (by omega)).trans (B1.out.ext e2)
            have K2 := (SH5.block (h + 1) (by have := B2.out.lt; have := e2.size; omega) (by omega)).trans (B2.out.ext e2)
            have hz2 : h ≤ w2.heap.size := Nat.le_trans (by omega) e2.size
            have X5 : Below h w w5 := below_shy (Below.trans XX.out (e2.mono (by omega))) hz2 SH5 (fun k hk => by rcases hk with hk | hk <;> omega)
            rw [HVF.out]
            refine leaves_cons (f := 43) (args := #[.pointer (some ⟨h, 0, none⟩), .pointer (some ⟨h + 1, 0, none⟩)]) (by simp) (by simp [go_sem]) ?_
            (try rw [← HH.out])
            refine (parse_catch h (h + 1) _ _ _ _ [] _ K1 K2 (by omega)).mono ?_
            rintro e u' w6 ⟨rfl, rfl, K1, K2, SH⟩
            obtain ⟨c1, _⟩ := K1.one
            obtain ⟨c2, c3, _⟩ := K2.two
            simp [Leaves, settle, results, Try.results34, go_sem, c1, c2, c3]
            exact ⟨rfl, ext_shy HH.out X5 SH (fun k hk => by rcases hk with hk | hk <;> omega)⟩
          · rw [hG] at pg CL
            simp only at pg
            have hle := labG_le (d :: r) k
            have hbe : b.length ≤ 63 ∧ k ≤ e ∧ e ≤ k + (d :: r).length := by
              unfold oneG at hG
              split at hG
              · rename_i hx; cases hx
              · split at hG
                · cases hG
                · rename_i hx _
                  cases hx
                  rcases hL2 : labG (d :: r) k with f | ⟨b2, e2⟩
                  · rw [hL2] at hG; cases hG
                  · rw [hL2] at hG
                    simp only at hG
                    split at hG
                    · cases hG
                    · cases hG
                      have := hle.2 _ _ hL2
                      omega
            have hstep : parG s.length s 0 = addL (L ++ [b]) (parG m (s.drop (e + 1)) (e + 1)) := by
              have hd : (d :: r).drop (e - k + 1) = s.drop (e + 1) := by rw [← HDR.out, List.drop_drop]; congr 1; omega
              rw [pg, hd]
              rcases parG m (s.drop (e + 1)) (e + 1) with f | M
              · rfl
              · simp [consL, addL]
            have HST := hid hstep
            obtain ⟨_, hke, hee⟩ := hbe
            clear hle hstep pg hG
            go_wp2_with fail
            go_quiet (fail)
            go_wp2_with fail
            generalize hw2 : wr.drewN _ = w2
            have e2 : Ext wr w2 := by rw [← hw2]; exact ext_drewN _ _
            clear hw2
            have P2 : ParP w2 (h + 2) (h + 3) s k L := ⟨A, c, HB.out.ext e2, HO.out.ext e2, by omega, Nat.le_trans hbw e2.size⟩
            (with_reducible refine (CL.out _ P2).mono ?_)
            rintro x w5 ⟨rfl, P5, SH5⟩
            have K1 := (SH5.block h (by have := B1.out.lt; have := e2.size; omega) (by omega)).trans (B1.out.ext e2)
            have K2 := (SH5.block (h + 1) (by have := B2.out.lt; have := e2.size; omega) (by omega)).trans (B2.out.ext e2)
            have hz2 : h ≤ w2.heap.size := Nat.le_trans (by omega) e2.size
            have X5 : Below h w w5 := below_shy (Below.trans XX.out (e2.mono (by omega))) hz2 SH5 (fun k hk => by rcases hk with hk | hk <;> omega)
            have hm1 : posOf (h + 2) w5 = e + 1 := by obtain ⟨A5, c5, hB5, _⟩ := P5; exact posOf_blk hB5
            have hm0 : posOf (h + 2) wr = k := posOf_blk HB.out
            have HP5 := hid P5
            have HK1 := hid K1
            have HK2 := hid K2
            have HX5 := hid X5
            clear P5 K1 K2 X5 SH5 c0 c1 c2 rf P2
            go_wp2_with fail
            refine ⟨⟨e + 1, m, L ++ [b], by omega, ?_, by simp; omega, HP5, HST, HK1, HK2, HX5⟩, ?_⟩
            · rw [List.length_drop]; omega
            · rw [hm1, hm0]; omega
        · have zlt : decide ((k : Int) < (t.size : Int)) = false := by rw [decide_eq_false_iff_not, HTZ.out]; omega
          have zlt' : decide (k < t.size) = false := by rw [decide_eq_false_iff_not, HTZ.out]; omega
          have hdn : s.drop k = [] := List.drop_of_length_le (by omega)
          have pg := PG.out
          rw [hdn, parG_nil] at pg
          have hv : V = if (joinS L).2 = 0 then ((joinS L).1, (0, 0)) else ([], ((joinS L).2, 0)) := by rw [HVV.out, pg]; simp [addL]
          have HVJ := hid hv
          clear pg hdn hv
          have CJ := hid (fun (W : World) (hW : Ext wr W) => join_in (HO.out.rd.ext hW) (by omega))
          obtain ⟨J, hJ⟩ : ∃ J, J = joinS L := ⟨_, rfl⟩
          rw [← hJ] at HVJ CJ
          obtain ⟨N, E⟩ := J
          simp only at HVJ CJ
          clear hJ
          by_cases hE : E = 0
          · subst hE
            have hv : V = (N, (0, 0)) := by rw [HVJ.out]; rfl
            have HV2 := hid hv
            clear hv
            go_wp2_with fail
            go_quiet (fail)
            go_wp2_with fail
            generalize hw2 : wr.drewN _ = w2
            have e2 : Ext wr w2 := by rw [← hw2]; exact ext_drewN _ _
            clear hw2
            (with_reducible refine (CJ.out _ e2).mono ?_)
            rintro x w5 ⟨rfl, x5⟩
            have e5 := ext_trans e2 x5
            have K1 := B1.out.ext e5
            have K2 := B2.out.ext e5
            have X5 : Below h w w5 := Below.trans XX.out (e5.mono (by omega))
            clear c0 c1 c2 rf
            obtain ⟨c1, f1⟩ := K1.one
            obtain ⟨c2, c3, f2⟩ := K2.two
            have K1 := hid K1
            have K2 := hid K2
            have X5 := hid X5
            go_wp2_with fail
            have q1 : Blk (w5.setCell ⟨h, 0, none⟩ (.string (str N))) h 9 #[.string (str N)] := by simpa using K1.out.set_ 0 (.string (str N))
            have q2 : Blk ((w5.setCell ⟨h, 0, none⟩ (.string (str N))).setCell ⟨h, 0, none⟩ (.string (str N))) h 9 #[.string (str N)] := by simpa using q1.set_ 0 (.string (str N))
            have q3 := (q2.far (p := ⟨h + 1, 0, none⟩) (by simp) (.int .i64 0)).far (p := ⟨h + 1, 1, none⟩) (by simp) (.int .i64 0)
            have r3 := (((K2.out.far (p := ⟨h, 0, none⟩) (by simp) (.string (str N))).far (p := ⟨h, 0, none⟩) (by simp) (.string (str N))).set_ 0 (.int .i64 0)).set_ 1 (.int .i64 0)
            have r4 : Blk ((((w5.setCell ⟨h, 0, none⟩ (.string (str N))).setCell ⟨h, 0, none⟩ (.string (str N))).setCell ⟨h + 1, 0, none⟩ (.int .i64 0)).setCell ⟨h + 1, 1, none⟩ (.int .i64 0)) (h + 1) 45 #[.int .i64 0, .int .i64 0] := by simpa using r3
            have X7 : Below h w ((((w5.setCell ⟨h, 0, none⟩ (.string (str N))).setCell ⟨h, 0, none⟩ (.string (str N))).setCell ⟨h + 1, 0, none⟩ (.int .i64 0)).setCell ⟨h + 1, 1, none⟩ (.int .i64 0)) := (((X5.out.setCell (Nat.le_refl _) _).setCell (Nat.le_refl _) _).setCell (by simp) _).setCell (by simp) _
            rw [HV2.out]
            refine leaves_cons (f := 43) (args := #[.pointer (some ⟨h, 0, none⟩), .pointer (some ⟨h + 1, 0, none⟩)]) (by simp) (by simp [go_sem]) ?_
            refine (parse_idle _ _ _).mono ?_
            rintro e u' w6 ⟨rfl, rfl, x6⟩
            obtain ⟨c1, _⟩ := (q3).ext x6 |>.one
            obtain ⟨c2, c3, _⟩ := (r4).ext x6 |>.two
            simp [Leaves, settle, results, Try.results34, go_sem, c1, c2, c3]
            exact ext_shy HH.out X7 (Shy.of_ext (U := fun _ => False) x6) (fun k hk => hk.elim)
          · have zE : (E != 0) = true := by simpa using hE
            have hv : V = ([], (E, 0)) := by rw [HVJ.out, if_neg hE]
            have HV2 := hid hv
            clear hv hE
            go_wp2_with fail
            go_quiet (fail)
            go_wp2_with fail
            generalize hw2 : wr.drewN _ = w2
            have e2 : Ext wr w2 := by rw [← hw2]; exact ext_drewN _ _
            clear hw2
            (with_reducible refine (CJ.out _ e2).mono ?_)
            rintro x w5 ⟨rfl, x5⟩
            have e5 := ext_trans e2 x5
            have K1 := B1.out.ext e5
            have K2 := B2.out.ext e5
            have X5 : Below h w w5 := Below.trans XX.out (e5.mono (by omega))
            clear c0 c1 c2 rf
            obtain ⟨c1, f1⟩ := K1.one
            obtain ⟨c2, c3, f2⟩ := K2.two
            have K1 := hid K1
            have K2 := hid K2
            have X5 := hid X5
            go_wp2_with fail
            (with_reducible refine (F0.out _ E _).mono ?_)
            rintro e w7 ⟨rfl, hw⟩
            unfold thrown
            go_wp2_with fail
            have K1' : Blk (w5.setCell ⟨h, 0, none⟩ (.string (str N))) h 9 #[.string (str N)] := by simpa using K1.out.set_ 0 (.string (str N))
            have K2' : Blk (w5.setCell ⟨h, 0, none⟩ (.string (str N))) (h + 1) 45 #[.int .i64 0, .int .i64 0] := K2.out.far (by simp) _
            have X7 : Below h w (w5.setCell ⟨h, 0, none⟩ (.string (str N))) := X5.out.setCell (Nat.le_refl _) _
            rw [HV2.out]
            refine leaves_cons (f := 43) (args := #[.pointer (some ⟨h, 0, none⟩), .pointer (some ⟨h + 1, 0, none⟩)]) (by simp) (by simp [go_sem]) ?_
            refine (parse_catch h (h + 1) _ _ _ _ [] _ K1' K2' (by omega)).mono ?_
            rintro e u' w6 ⟨rfl, rfl, K1, K2, SH⟩
            obtain ⟨c1, _⟩ := K1.one
            obtain ⟨c2, c3, _⟩ := K2.two
            simp [Leaves, settle, results, Try.results34, go_sem, c1, c2, c3]
            exact ⟨rfl, ext_shy HH.out X7 SH (fun k hk => by rcases hk with hk | hk <;> omega)⟩
end Go.Proofs.Ytcgcadhnecakaaa

/- Layer 29: the bytes of an event. (Printed by gen_lay.py.) -/
import Derived.Test.YtholjbnggnfapaaScrI
namespace Go.Proofs.Ytholjbnggnfapaa
open Go.BK Go.BK.SC Go.RowKit Go.Maps
set_option linter.unusedVariables false
set_option linter.unusedSimpArgs false
def wf64 (x : Int) : Prop := -9223372036854775808 ≤ x ∧ x ≤ 9223372036854775807
structure WfE (e : Ev) : Prop where
  kind : wf64 e.kind
  sort : wf64 e.sort
  who : wf64 e.who
  port : wf64 e.port
  conn : wf64 e.conn
  n : wf64 e.n
theorem WfE.get {e : Ev} (h : WfE e) (f : F) (hb : (e.b.length : Int) ≤ 9223372036854775807) : wf64 (getF e f) := by
  cases f
  · exact h.who
  · exact h.port
  · exact h.conn
  · exact h.n
  · exact h.sort
  · exact ⟨by show _ ≤ (e.b.length : Int); omega, hb⟩
theorem byt_u8 (x : Int) : IntKind.u8.wrap x = ((byt x).toNat : Int) := by
  rw [IntKind.wrap_u8, byt_nat]
theorem byt_wrap (x : Int) : byt (IntKind.i64.wrap x) = byt x := by
  unfold byt
  have : IntKind.i64.wrap x % 256 = x % 256 := by rw [IntKind.wrap_i64]; omega
  rw [this]
theorem spot_ne (g : Nat) (f : F) (h : f ≠ .b) : spotF g f = .pointer (some ⟨g, offF f, none⟩) := by cases f <;> first | rfl | exact absurd rfl h
theorem cell_get {w : World} {g : Nat} {e : Ev} {B : Option Addr} {d : Nat} (h : Blk w g 34 (cellsE e B d)) (f : F) (hf : f ≠ .b) : w.cell? ⟨g, offF f, none⟩ = some (.int .i64 (getF e f)) := by
  cases f
  · exact h.cell 2
  · exact h.cell 3
  · exact h.cell 4
  · exact h.cell 5
  · exact h.cell 1
  · exact absurd rfl hf
theorem size_f (f : F) : f.size = 1 ∨ f.size = 2 ∨ f.size = 4 := by cases f <;> simp [F.size]
/-- Within lay: what is so far. -/
structure LaySt (w0 w : World) (gb base : Nat) (e : Ev) (B : Option Addr) (d m : Nat) (NA : Option Addr) (fs : List F) (O : Option Addr) (co : Nat) (q : List UInt8) : Prop where
  ow : Own w base 5 O co q
  bl : Blk w gb 34 (cellsE e B d)
  rd : Rd w B d e.b
  nr : RdG w 1 NA m m (namesV fs)
  ne : 0 < m → ∀ k, blk NA = some k → blk O ≠ some k
  ex : Below base w0 w
  lo : gb < base ∧ base ≤ w0.heap.size ∧ (0 < e.b.length → ∀ k, blk B = some k → k < base)
section
variable {w0 w w' wa : World} {gb base d m co co' : Nat} {B NA O O' : Option Addr} {fs : List F} {q q' : List UInt8} {e : Ev}
theorem LaySt.ext (S : LaySt w0 w gb base e B d m NA fs O co q) (x : Ext w w') : LaySt w0 w' gb base e B d m NA fs O co q :=
  ⟨OwnG.ext S.ow x, S.bl.ext x, RdG.ext S.rd x, S.nr.ext x, S.ne, S.ex.trans (x.mono (by have := S.ex.size; have := S.lo.2.1; omega)), S.lo⟩
theorem LaySt.grow (S : LaySt w0 w gb base e B d m NA fs O co q) (o : Own w' base 5 O' co' q') (g : w.grownBy w' (blk O)) (hn : ∀ b, blk O' = some b → blk O = some b ∨ w.heap.size ≤ b) : LaySt w0 w' gb base e B d m NA fs O' co' q' := by
  have hO : ∀ k, blk O = some k → base ≤ k ∧ k < w.heap.size := fun k hk => OwnG.lt S.ow k hk
  have s := shy_of_grown g
  refine ⟨o, S.bl.shy s (fun e => by have := hO _ e; have := S.lo.1; omega), ?_, ?_, ?_, ?_, S.lo⟩
  · rcases Nat.eq_zero_or_pos e.b.length with h0 | h0
    · have e1 : e.b = [] := List.eq_nil_of_length_eq_zero h0
      have hr := S.rd
      rw [e1] at hr ⊢
      exact RdG.zero w' 1 B d (RdG.cap hr).2
    · exact s.rd S.rd (fun k hk e => by have := hO _ e; have := S.lo.2.2 h0 k hk; omega)
  · rcases Nat.eq_zero_or_pos m with h0 | h0
    · exact ⟨S.nr.1, S.nr.2.1, S.nr.2.2.1, fun h => by omega⟩
    · exact s.rdG S.nr (fun k hk e => S.ne h0 k hk e)
  · intro h0 k hk e
    rcases hn k e with h1 | h1
    · exact S.ne h0 k hk h1
    · obtain ⟨b', h2, h3⟩ := S.nr.lt h0
      rw [hk] at h2
      injection h2 with h2
      omega
  · exact S.ex.grown g (by have := S.ex.size; have := S.lo.2.1; omega) (fun k hk => (hO k hk).1)
def LyRel (w0 : World) (gb base : Nat) (e : Ev) (B : Option Addr) (d m : Nat) (NA : Option Addr) (fs : List F) (ov iv : Value) (wr : World) : Prop :=
  ∃ j O co q, j ≤ m ∧ iv = .int .i64 (j : Nat) ∧ q = byt (e.kind - 1) :: (fs.take j).flatMap (layF e) ∧ ov = .slice O q.length co ∧ LaySt w0 wr gb base e B d m NA fs O co q
def InRel (w0 : World) (gb base : Nat) (e : Ev) (B : Option Addr) (d m : Nat) (NA : Option Addr) (fs : List F) (q : List UInt8) (x : Int) (sz : Nat) (ov iv : Value) (wr : World) : Prop :=
  ∃ O co q', ov = .slice O q'.length co ∧ LaySt w0 wr gb base e B d m NA fs O co q' ∧ ((∃ i : Nat, i < sz ∧ iv = .int .i64 (i : Nat) ∧ q' = q ++ (be x sz).take (sz - 1 - i)) ∨ (iv = .int .i64 (-1) ∧ q' = q ++ be x sz))
theorem lay_len (e : Ev) (fs : List F) (c : Nat) (hf : fs.length ≤ 3) (hb : e.b.length ≤ c) (j : Nat) : ((fs.take j).flatMap (layF e)).length ≤ 3 * (c + 4) := by
  have h1 : ∀ f, (layF e f).length ≤ c + 4 := fun f => by
    unfold layF
    rw [List.length_append, be_len]
    have := size_f f
    split <;> simp <;> omega
  have h2 : ∀ gs : List F, (gs.flatMap (layF e)).length ≤ gs.length * (c + 4) := fun gs => by
    induction gs with
    | nil => simp
    | cons f gs ih =>
      rw [List.flatMap_cons, List.length_append, List.length_cons, Nat.add_mul]
      have := h1 f
      omega
  have h3 := h2 (fs.take j)
  have h4 : (fs.take j).length ≤ 3 := by rw [List.length_take]; omega
  have h5 := Nat.mul_le_mul_right (c + 4) h4
  omega
theorem shr_facts (x : Int) : IntKind.u8.wrap (x / 256 ^ 0) = ((byt (x / 256 ^ 0)).toNat : Int) := byt_u8 _
end
set_option maxHeartbeats 4000000 in
set_option maxRecDepth 100000 in
theorem lay_in {w : World} {B : Option Addr} {d : Nat} {e : Ev} (h : Rd w B d e.b) (hw : WfE e) (hb : e.b.length ≤ 2 ^ 40) : Calls Try.prog 31 #[.agg #[.int .i64 e.kind, .int .i64 e.sort, .int .i64 e.who, .int .i64 e.port, .int .i64 e.conn, .int .i64 e.n, .slice B e.b.length d]] w fun r w' => ∃ O co, r = .returned (.slice O (layS e).length co) ∧ Own w' w.heap.size 5 O co (layS e) ∧ Ext w w' := by
  obtain ⟨i0, hi0, hz0, hz1, hz2⟩ := info_parts info_u8
  have xa := ext_alloc w (.cells #[.int .i64 e.kind, .int .i64 e.sort, .int .i64 e.who, .int .i64 e.port, .int .i64 e.conn, .int .i64 e.n, .slice B e.b.length d] 34)
  have ba := Blk.new w 34 #[.int .i64 e.kind, .int .i64 e.sort, .int .i64 e.who, .int .i64 e.port, .int .i64 e.conn, .int .i64 e.n, .slice B e.b.length d]
  obtain ⟨w1, hw1⟩ : ∃ w1, w.alloc (.cells #[.int .i64 e.kind, .int .i64 e.sort, .int .i64 e.who, .int .i64 e.port, .int .i64 e.conn, .int .i64 e.n, .slice B e.b.length d] 34) = w1 := ⟨_, rfl⟩
  rw [hw1] at xa ba
  obtain ⟨gb, hgb⟩ : ∃ gb, w.heap.size = gb := ⟨_, rfl⟩
  rw [hgb] at ba
  have hs1 : w1.heap.size = gb + 1 := by rw [← hw1, ← hgb]; simp
  obtain ⟨K0, hK0⟩ : ∃ K0, byt (e.kind - 1) = K0 := ⟨_, rfl⟩
  obtain ⟨K1, hK1⟩ : ∃ K1, IntKind.i64.wrap (e.kind - 1) = K1 := ⟨_, rfl⟩
  have hK2 : IntKind.u8.wrap K1 = (K0.toNat : Int) := by rw [← hK1, byt_u8, ← hK0]; congr 2; exact byt_wrap _
  have xb := ext_alloc w1 (.cells #[.int .u8 K0.toNat] 5)
  have ob : Own (w1.alloc (.cells #[.int .u8 K0.toNat] 5)) w1.heap.size 5 (some ⟨w1.heap.size, 0, none⟩) 1 [K0] := OwnG.new (ok := isU8) (base := w1.heap.size) (size := 1) (e := 5) w1 [.int .u8 K0.toNat] 1 1 (Nat.le_refl _) rfl (Nat.le_refl _) (by simp [maxLen]) (by intro u hu; rw [List.mem_singleton] at hu; exact ⟨K0, hu⟩)
  obtain ⟨w2, hw2⟩ : ∃ w2, w1.alloc (.cells #[.int .u8 K0.toNat] 5) = w2 := ⟨_, rfl⟩
  rw [hw2] at xb ob
  rw [hs1] at ob
  have hs2 : w2.heap.size = gb + 2 := by rw [← hw2]; simp; omega
  have BA := hid (ba.ext xb)
  have XA := hid xa
  have XB := hid xb
  have OB := hid ob
  have R2 := hid (RdG.ext (RdG.ext h xa) xb)
  have HW1 := hid hw1
  have HW2 := hid hw2
  have HGB := hid hgb
  have HS1 := hid hs1
  have HS2 := hid hs2
  have HWF := hid hw
  have H := hid h
  have HK0 := hid hK0
  have c0 : w2.cell? ⟨gb, 0, none⟩ = some (.int .i64 e.kind) := BA.out.cell 0
  have C0 := hid c0
  obtain ⟨fs, hfs⟩ : ∃ fs, fieldsI e.kind = fs := ⟨_, rfl⟩
  obtain ⟨m, hm⟩ : ∃ m, fs.length = m := ⟨_, rfl⟩
  have hm3 : m ≤ 3 := by
    rw [← hm, ← hfs]
    unfold fieldsI fieldsS
    split
    · split <;> simp
    · simp
  have LK := hid (fun (W W2 : World) (mb : Nat) (L : List Fd) (f : FR W W2 mb L) (t : ∀ k : Int, (∃ A, tabL L (.int .i64 k) = some (.slice A (fieldsI k).length (fieldsI k).length) ∧ (k, A, fieldsI k) ∈ L) ∨ (tabL L (.int .i64 k) = none ∧ fieldsI k = [])) =>
    (show ∃ A, (Instr.lookup 57 (.map (some mb)) (.int .i64 e.kind) false).run Try.prog W2 = .ok (.slice A m m) W2 ∧ RdG W2 1 A m m (namesV fs) ∧ (0 < m → ∀ k, blk A = some k → W.heap.size ≤ k) from by
      have h3 := f.1.look (t := 57) keyed_int Try.underlying57 (z := .slice none 0 0) (by kernel_rfl) (key_int (a := e.kind) HWF.out.kind) false
      rcases t e.kind with ⟨A, h1, h2⟩ | ⟨h1, h2⟩
      · rw [hfs, hm] at h1
        rw [hfs] at h2
        rw [h1] at h3
        have h4 := f.2.2.2 _ h2
        simp only [hm] at h4
        exact ⟨A, by simpa using h3, h4.1, fun _ => h4.2.2⟩
      · rw [h1] at h3
        rw [hfs] at h2
        subst h2
        simp only [List.length_nil] at hm
        subst hm
        exact ⟨none, by simpa using h3, RdG.none_ _ _, by simp⟩))
  have HFS := hid hfs
  have HM := hid hm
  clear h hw xa xb ba ob hw1 hw2 hgb hs1 hs2 hfs hm hK0 c0
  go_enter Try.func31, Try.ntmps31
  go_upto_region 2 with (fail)
  rw [HW1.out, HGB.out, HW2.out]
  clear hK1 hK2
  go_region_held3 (fun W => W.cell? ⟨gb, 0, none⟩ = some (.int .i64 e.kind)) (first | exact BA.out.drew.cell 0 | exact (BA.out.ext X3.out).cell 0 | go_keep) ((go_at_call 37; refine (fields_all _).mono ?_; rintro r w3 ⟨mb, Lf, rfl, hf, ht⟩; have X3 : Hid (Ext w2 w3) := hid (ext_trans (ext_drew _) hf.2.1); obtain ⟨NA, hlk, nrd, nlo⟩ := LK.out _ _ _ _ hf ht; have NR := hid nrd; have NLO := hid nlo; clear hf ht nrd nlo))
  have START : Hid (LyRel w2 gb (gb + 1) e B d m NA fs (.slice (some ⟨gb + 1, 0, none⟩) 1 1) (.int .i64 0) w3) := hid ⟨0, _, _, [K0], Nat.zero_le _, rfl, (by rw [HK0.out]; rfl), rfl, ⟨OwnG.ext OB.out X3.out, BA.out.ext X3.out, RdG.ext R2.out X3.out, NR.out, fun h0 k hk e => (by
      have h1 := NLO.out h0 k hk
      have h2 := HS2.out
      injection e with e
      dsimp only at e
      simp at h1
      omega), X3.out.mono (by have := HS2.out; omega), by have := HS2.out; omega, by have := HS2.out; omega, fun h0 k hk => (by
      obtain ⟨b', h1, h2⟩ := RdG.lt H.out h0
      rw [hk] at h1
      injection h1 with h1
      have := HGB.out
      omega)⟩⟩
  clear hlk
  go_wp2_with fail
  go_loopw [3, 20] (fun ov iv wr => LyRel w2 gb (gb + 1) e B d m NA fs ov iv wr) (fun _ iv _ => m - (intOf iv).toNat)
  case atStart => exact START.out
  case round =>
    obtain ⟨j, O, co, q, hj, rfl, hq, rfl, S⟩ := hrel
    have hql : q.length ≤ 2 ^ 43 := by
      rw [hq, List.length_cons]
      have := lay_len e fs _ (by rw [HM.out]; omega) hb j
      omega
    by_cases hlt : j < m
    · have i1 : (j : Int) < (m : Int) := by omega
      obtain ⟨nb, no, hNA, hnb, hcell⟩ := S.nr.at_ hlt
      rw [names_at (by rw [HM.out]; exact hlt)] at hcell
      have htk : fs.take (j + 1) = fs.take j ++ [fs.getD j .b] := by
        have hl : j < fs.length := by rw [HM.out]; exact hlt
        rw [List.take_succ_eq_append_getElem hl, getD_el hl]
      obtain ⟨f, hf⟩ : ∃ f, fs.getD j .b = f := ⟨_, rfl⟩
      rw [hf] at hcell htk
      subst hNA
      have HTK := hid htk
      have SS := hid S
      have HQ := hid hq
      have hc6 : wr.cell? ⟨gb, 6, none⟩ = some (.slice B e.b.length d) := S.bl.cell 6
      have hbn : e.b.length ≤ 9223372036854775807 := S.rd.n_le
      obtain ⟨ql, hqln⟩ : ∃ ql, q.length = ql := ⟨_, rfl⟩
      rw [hqln] at hql ⊢
      have HQL := hid hqln
      obtain ⟨n, hn⟩ : ∃ n, e.b.length = n := ⟨_, rfl⟩
      have hb2 : n ≤ 2 ^ 40 := by omega
      rw [hn] at hc6 hbn
      have HN := hid hn
      clear S hf htk hq hqln hn
      by_cases hfb : f = .b
      · subst hfb
        have N := hid (number_in gb .b wr)
        simp only [spotF, F.size, nameF] at N hcell
        go_wp2_with fail
        refine N.out.mono ?_
        rintro r0 _ ⟨rfl, rfl⟩
        obtain ⟨wo, hwo⟩ : ∃ wo, wo = wr := ⟨_, rfl⟩
        subst hwo
        go_wp2_with fail
        go_loopw [3, 9] (fun ov iv wr => InRel w2 gb (gb + 1) e B d m (some ⟨nb, no, none⟩) fs q (n : Int) 2 ov iv wr) (fun _ iv _ => ((match iv with | .int _ a => a | _ => 0) + 1).toNat)
        case atStart => exact ⟨O, co, q, (by rw [HQL.out]), SS.out, .inl ⟨2 - 1, by omega, rfl, by rw [Nat.sub_self, List.take_zero, List.append_nil]⟩⟩
        case round =>
          obtain ⟨O5, co5, q5, rfl, S5, hcase⟩ := hrel
          rcases hcase with ⟨i, hi, rfl, hq5⟩ | ⟨rfl, hq5⟩
          · have hq5l : q5.length ≤ 2 ^ 44 := by
              rw [hq5, List.length_append, List.length_take, be_len, HQL.out]
              omega
            have hbt : q5 ++ [byt ((n : Int) / 256 ^ i)] = q ++ (be (n : Int) 2).take (2 - i) := by rw [hq5, List.append_assoc, be_take (n : Int) 2 i hi]
            have hi4 : i = 0 ∨ i = 1 ∨ i = 2 ∨ i = 3 := by omega
            have hb8 := byt_u8 ((n : Int) / 256 ^ i)
            obtain ⟨y, hy⟩ : ∃ y, byt ((n : Int) / 256 ^ i) = y := ⟨_, rfl⟩
            rw [hy] at hbt hb8
            have HBT := hid hbt
            have S5H := hid S5
            have ow : OwnG isU8 wr (gb + 1) 5 1 O5 q5.length co5 (q5.map u8v) := S5.ow
            have hwz : gb + 1 ≤ wr.heap.size := by have h1 := S5.ex.size; have h2 := S5.lo.2.1; omega
            obtain ⟨q5n, hq5n⟩ : ∃ q5n, q5.length = q5n := ⟨_, rfl⟩
            rw [hq5n] at ow hq5l ⊢
            have HQ5 := hid hq5n
            have HI := hid hi
            clear hq5 hbt hy S5 hq5n hi
            rcases hi4 with rfl | rfl | rfl | rfl
            all_goals
              simp only [Int.pow_succ, Int.pow_zero, Int.one_mul, Int.reduceMul, Int.ediv_one] at hb8
              go_wp2_with (at_builtin; go_must (refine wpList_append_1' rfl (.tmp 43) (.tmp 49) 22 rfl (gb + 1) 5 i0 (.int .u8 0) 1 Try.underlying22 hi0 hz0 hz1 hz2 rfl ⟨0, rfl⟩ (fun _ h => h.one) rfl ow (.int .u8 y.toNat) (by rfl) ⟨y, rfl⟩ (by omega) (by unfold maxLen; omega) hwz ?_; intro A6 c6 w6 o6 g6 x6 n6; have O6 := hid o6; have G6 := hid g6; have N6 := hid n6; clear o6 g6 x6 n6 ow))
              go_roundw
              case rel =>
                have o7 : Own w6 (gb + 1) 5 A6 c6 (q5 ++ [y]) := by
                  unfold Own
                  rw [List.length_append, List.map_append, HQ5.out]
                  exact O6.out
                have S7 := S5H.out.grow o7 G6.out N6.out
                refine ⟨A6, c6, q5 ++ [y], (by simp [HQ5.out]), S7, ?_⟩
                have hi := HI.out
                first
                  | exact absurd hi (by omega)
                  | exact .inr ⟨by go_num, by rw [HBT.out, Nat.sub_zero, List.take_of_length_le (by rw [be_len]; omega)]⟩
                  | exact .inl ⟨0, by omega, by go_num, by rw [HBT.out, show 2 - 1 - 0 = 2 - 1 from rfl]⟩
                  | exact .inl ⟨1, by omega, by go_num, by rw [HBT.out, show 2 - 1 - 1 = 2 - 2 from rfl]⟩
                  | exact .inl ⟨2, by omega, by go_num, by rw [HBT.out, show 2 - 1 - 2 = 2 - 3 from rfl]⟩
              case measure => simp
          · have S5H := hid S5
            have HQ5 := hid hq5
            clear S5 hq5
            have OWQ : OwnG isU8 wr (gb + 1) 5 1 O5 q5.length co5 (q5.map u8v) := S5H.out.ow
            have RDB : RdG wr 1 B n d (e.b.map u8v) := by
              have := S5H.out.rd
              unfold Rd at this
              rw [HN.out] at this
              exact this
            have hwz : gb + 1 ≤ wr.heap.size := by have h1 := S5H.out.ex.size; have h2 := S5H.out.lo.2.1; omega
            have hc7 : wr.cell? ⟨gb, 6, none⟩ = some (.slice B n d) := by
              rw [← HN.out]
              exact S5H.out.bl.cell 6
            have hq5l : q5.length ≤ 2 ^ 44 := by
              rw [HQ5.out, List.length_append, be_len, HQL.out]
              omega
            obtain ⟨q5n, hq5n⟩ : ∃ q5n, q5.length = q5n := ⟨_, rfl⟩
            rw [hq5n] at OWQ hq5l ⊢
            have HQ5N := hid hq5n
            clear hq5n
            go_wp2_with (at_builtin; go_must (refine wpList_append_g (ok := isU8) rfl (.tmp 53) (.tmp 55) 22 rfl (gb + 1) 5 i0 (.int .u8 0) 1 1 Try.underlying22 hi0 hz0 hz1 hz2 rfl (by decide) (by simp [Value.cells]; exact ⟨0, rfl⟩) (fun _ h => h.one) rfl OWQ rfl RDB (isU8_map _) (by omega) (by unfold maxLen; omega) hwz ?_; intro A6 c6 w6 o6 g6 n6; have O6 := hid o6; have G6 := hid g6; have N6 := hid n6; clear o6 g6 n6 OWQ RDB))
            go_roundw
            case rel =>
              have o7 : Own w6 (gb + 1) 5 A6 c6 (q5 ++ e.b) := by
                unfold Own
                rw [List.length_append, List.map_append, HQ5N.out, HN.out]
                exact O6.out
              have S7 := S5H.out.grow o7 G6.out (fun b hb => by
                rcases N6.out with h1 | h1
                · exact .inl (h1 ▸ hb)
                · rw [h1] at hb
                  injection hb with hb
                  exact .inr (by dsimp only at hb; omega))
              refine ⟨j + 1, A6, c6, q5 ++ e.b, by omega, by go_num, ?_, (by simp [HQ5N.out, HN.out]), S7⟩
              rw [HQ5.out, HTK.out, List.flatMap_append, HQ.out]
              simp [layF, SC.getF, F.size, HN.out]
            case measure => simp [intOf]; omega
      · have N := number_in gb f wr
        rw [spot_ne gb f hfb] at N
        have hcx := cell_get SS.out.bl f hfb
        have hsz := size_f f
        obtain ⟨x, hx⟩ : ∃ x, getF e f = x := ⟨_, rfl⟩
        obtain ⟨o, ho⟩ : ∃ o, offF f = o := ⟨_, rfl⟩
        obtain ⟨sz, hs⟩ : ∃ sz, f.size = sz := ⟨_, rfl⟩
        rw [hs, ho] at N
        rw [hs] at hsz
        rw [hx, ho] at hcx
        have hlf : layF e f = be x sz := by unfold layF; rw [hx, hs, if_neg hfb, List.append_nil]
        have HLF := hid hlf
        have N := hid N
        have HSZ := hid hsz
        clear hx ho hs hlf hfb
        have hsz4 : sz ≤ 4 := by omega
        have hsz1 : 1 ≤ sz := by omega
        clear hsz
        go_wp2_with fail
        refine N.out.mono ?_
        rintro r0 _ ⟨rfl, rfl⟩
        obtain ⟨wo, hwo⟩ : ∃ wo, wo = wr := ⟨_, rfl⟩
        subst hwo
        have hs9 : IntKind.i64.wrap ((sz : Int) - 1) = ((sz - 1 : Nat) : Int) := by rw [IntWalk.i64_in _ (by omega)]; omega
        go_wp2_with fail
        go_loopw [3, 9] (fun ov iv wr => InRel w2 gb (gb + 1) e B d m (some ⟨nb, no, none⟩) fs q x sz ov iv wr) (fun _ iv _ => ((match iv with | .int _ a => a | _ => 0) + 1).toNat)
        case atStart => exact ⟨O, co, q, (by rw [HQL.out]), SS.out, .inl ⟨sz - 1, by omega, rfl, by rw [Nat.sub_self, List.take_zero, List.append_nil]⟩⟩
        case round =>
          obtain ⟨O5, co5, q5, rfl, S5, hcase⟩ := hrel
          rcases hcase with ⟨i, hi, rfl, hq5⟩ | ⟨rfl, hq5⟩
          · have hq5l : q5.length ≤ 2 ^ 44 := by
              rw [hq5, List.length_append, List.length_take, be_len, HQL.out]
              omega
            have hbt : q5 ++ [byt (x / 256 ^ i)] = q ++ (be x sz).take (sz - i) := by rw [hq5, List.append_assoc, be_take x sz i hi]
            have hi4 : i = 0 ∨ i = 1 ∨ i = 2 ∨ i = 3 := by omega
            have hb8 := byt_u8 (x / 256 ^ i)
            obtain ⟨y, hy⟩ : ∃ y, byt (x / 256 ^ i) = y := ⟨_, rfl⟩
            rw [hy] at hbt hb8
            have HBT := hid hbt
            have S5H := hid S5
            have ow : OwnG isU8 wr (gb + 1) 5 1 O5 q5.length co5 (q5.map u8v) := S5.ow
            have hwz : gb + 1 ≤ wr.heap.size := by have h1 := S5.ex.size; have h2 := S5.lo.2.1; omega
            obtain ⟨q5n, hq5n⟩ : ∃ q5n, q5.length = q5n := ⟨_, rfl⟩
            rw [hq5n] at ow hq5l ⊢
            have HQ5 := hid hq5n
            have HI := hid hi
            clear hq5 hbt hy S5 hq5n hi
            rcases hi4 with rfl | rfl | rfl | rfl
            all_goals
              simp only [Int.pow_succ, Int.pow_zero, Int.one_mul, Int.reduceMul, Int.ediv_one] at hb8
              go_wp2_with (at_builtin; go_must (refine wpList_append_1' rfl (.tmp 43) (.tmp 49) 22 rfl (gb + 1) 5 i0 (.int .u8 0) 1 Try.underlying22 hi0 hz0 hz1 hz2 rfl ⟨0, rfl⟩ (fun _ h => h.one) rfl ow (.int .u8 y.toNat) (by rfl) ⟨y, rfl⟩ (by omega) (by unfold maxLen; omega) hwz ?_; intro A6 c6 w6 o6 g6 x6 n6; have O6 := hid o6; have G6 := hid g6; have N6 := hid n6; clear o6 g6 x6 n6 ow))
              go_roundw
              case rel =>
                have o7 : Own w6 (gb + 1) 5 A6 c6 (q5 ++ [y]) := by
                  unfold Own
                  rw [List.length_append, List.map_append, HQ5.out]
                  exact O6.out
                have S7 := S5H.out.grow o7 G6.out N6.out
                refine ⟨A6, c6, q5 ++ [y], (by simp [HQ5.out]), S7, ?_⟩
                have hi := HI.out
                first
                  | exact absurd hi (by omega)
                  | exact .inr ⟨by go_num, by rw [HBT.out, Nat.sub_zero, List.take_of_length_le (by rw [be_len]; omega)]⟩
                  | exact .inl ⟨0, by omega, by go_num, by rw [HBT.out, show sz - 1 - 0 = sz - 1 from rfl]⟩
                  | exact .inl ⟨1, by omega, by go_num, by rw [HBT.out, show sz - 1 - 1 = sz - 2 from rfl]⟩
                  | exact .inl ⟨2, by omega, by go_num, by rw [HBT.out, show sz - 1 - 2 = sz - 3 from rfl]⟩
              case measure => simp
          · have S5H := hid S5
            have HQ5 := hid hq5
            clear S5 hq5
            go_wp2_with fail
            go_roundw
            case rel =>
              refine ⟨j + 1, O5, co5, q5, by omega, by go_num, ?_, rfl, S5H.out⟩
              rw [HQ5.out, HTK.out, List.flatMap_append, HQ.out]
              simp [HLF.out]
            case measure => simp [intOf]; omega
    · obtain rfl : j = m := by omega
      have i1 : ¬ (j : Int) < (j : Int) := by omega
      have SS := hid S
      have HQ := hid hq
      clear S hq
      go_wp2_with fail
      go_ret
      have e1 : q = layS e := by
        rw [HQ.out, ← HM.out, List.take_length]
        unfold layS
        rw [HFS.out]
      subst e1
      refine ⟨O, co, rfl, OwnG.mono SS.out.ow (by have := HGB.out; omega), ?_⟩
      exact Below.trans XA.out (Below.trans (XB.out.mono (by have := HS1.out; have := HGB.out; omega)) (SS.out.ex.mono (by have := HGB.out; omega)))
end Go.Proofs.Ytholjbnggnfapaa

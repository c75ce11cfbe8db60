/- BaseParts: the text of bytes behind others, of which there are as many as by 3, is both texts, one behind the other. -/
import Derived.Test.YtgcdpkjohaplcaaBasK
import Derived.Test.YtgcdpkjohaplcaaKCopy
namespace Go.Proofs.Ytgcdpkjohaplcaa
open Go.BK Go.RowKit
set_option linter.unusedVariables false
theorem copy_to {A : Option Addr} {c n : Nat} {l : List UInt8} {w : World} (h : Rd w A c l) (hn : l.length = n) (hl : l.length ≤ 140737488355328) :
    Calls Try.prog 19 #[.slice A n c] w fun e w' => ∃ A' c', e = .returned (.slice A' n c') ∧ Own w' w.heap.size 5 A' c' l ∧ Ext w w' := by
  subst hn; exact copy_bytes h hl
def encT (l : List UInt8) : ByteArray := str ((BM.encD l).map BM.letN)
theorem encT_append (a b : List UInt8) (h : a.length % 3 = 0) : encT (a ++ b) = encT a ++ encT b := by
  unfold encT
  rw [BM.enc_append a b h, List.map_append, str_append]
set_option maxHeartbeats 2000000 in
set_option maxRecDepth 100000 in
theorem parts_walk {A B : Option Addr} {ca cb : Nat} {a b : List UInt8} (w : World) (ha : Rd w A ca a) (hb : Rd w B cb b) :
    Calls Try.prog 5 #[.slice A a.length ca, .slice B b.length cb] w fun e w' => e = .returned (.bool true) ∧ Below w.heap.size w w' := by
  obtain ⟨i0, hi, hz0, hz1, hz2⟩ := info_parts info_u8
  have la := ha.n_le
  have lb := hb.n_le
  by_cases h1 : 1000 < a.length
  · have q1 : decide ((1000 : Int) < (a.length : Int)) = true := by simp; omega
    clear ha hb
    go_enter Try.func5, Try.ntmps5
    go_wp2_with fail
    refine (awake_yes _).mono ?_
    rintro e w1 ⟨rfl, x1⟩
    go_wp2_with fail
    go_ret
    exact ⟨rfl, x1⟩
  by_cases h2 : 1000 < b.length
  · have q1 : decide ((1000 : Int) < (a.length : Int)) = false := by simp; omega
    have q2 : decide ((1000 : Int) < (b.length : Int)) = true := by simp; omega
    clear ha hb
    go_enter Try.func5, Try.ntmps5
    go_wp2_with fail
    refine (awake_yes _).mono ?_
    rintro e w1 ⟨rfl, x1⟩
    go_wp2_with fail
    go_ret
    exact ⟨rfl, x1⟩
  have q1 : decide ((1000 : Int) < (a.length : Int)) = false := by simp; omega
  have q2 : decide ((1000 : Int) < (b.length : Int)) = false := by simp; omega
  obtain ⟨m, hm⟩ : ∃ m : Nat, m = a.length / 3 * 3 := ⟨_, rfl⟩
  have hml : m ≤ a.length := by omega
  have hmi : (a.length : Int) / 3 * 3 = (m : Int) := by omega
  have hmc : m ≤ ca := Nat.le_trans hml ha.le
  have hcc := ha.c_le
  obtain ⟨p, hp⟩ : ∃ p, p = a.take m := ⟨_, rfl⟩
  have hpl : p.length = m := by rw [hp, List.length_take]; omega
  have hr : Rd w A ca p := by
    have := ha.cut (i := 0) (j := m) (by omega) hml (A' := A) (fun _ => (mapAdd_zero A).symm)
    rw [hp]; simpa using this
  have HE := hid (encT_append p b (by omega))
  have HP := hid hpl
  have HR := hid hr
  have HB := hid hb
  clear ha hb hm hp hpl hr
  go_enter Try.func5, Try.ntmps5
  go_wp2_with fail
  refine (awake_yes _).mono ?_
  rintro e w1 ⟨rfl, x1⟩
  go_wp2_with fail
  refine (copy_to (HR.out.ext x1) HP.out (by rw [HP.out]; omega)).mono ?_
  rintro e w2 ⟨A2, c2, rfl, o2, x2⟩
  have ow : OwnG isU8 w2 w1.heap.size 5 1 A2 m c2 (p.map u8v) := by have := o2; unfold Own at this; rwa [HP.out] at this
  have rb : RdG w2 1 B b.length cb (b.map u8v) := (HB.out.ext x1).ext x2
  have hz2' := x2.size
  have X2 := hid (ext_trans x1 x2)
  have X12 := hid x2
  have X1 := hid x1
  clear x1 x2 o2
  have H12 := hid (fun (g : Nat) (hg : blk A2 = some g) => OwnG.lt ow g hg)
  go_wp2_with ((with_reducible show wpList _ _ _ (⟨some 27, _, _, _, _, _⟩ :: _) _ _); go_must (refine wpList_append_g (by rfl) (.tmp 25) (.tmp 26) 22 rfl w1.heap.size 5 i0 (.int .u8 0) 1 1 Try.underlying22 hi hz0 hz1 hz2 rfl (by decide) (by simp [Value.cells]; exact ⟨0, rfl⟩) (fun _ h => h.one) rfl ow rfl rb (isU8_map b) (by omega) (by unfold maxLen; omega) hz2' ?_); intro A3 c3 w3 o3 g3 y3)
  have hw1 : w.heap.size ≤ w1.heap.size := X1.out.size
  have hw2 := X2.out.size
  have X3 := hid (X2.out.grown g3 hw2 (fun g hg => Nat.le_trans hw1 (H12.out g hg).1))
  have r3 : Rd w3 A3 c3 (p ++ b) := by
    have := o3.rd
    unfold Rd
    rw [List.map_append, List.length_append, HP.out]
    exact this
  have ra := hid (((HR.out.ext X1.out).ext X12.out).grown g3 (fun h0 e => by obtain ⟨g, hg, hl⟩ := (HR.out.ext X1.out).lt h0; have := (H12.out g (by rw [← e, hg])).1; omega))
  have rb := hid (((HB.out.ext X1.out).ext X12.out).grown g3 (fun h0 e => by obtain ⟨g, hg, hl⟩ := (HB.out.ext X1.out).lt h0; have := (H12.out g (by rw [← e, hg])).1; omega))
  clear o3 g3 y3 ow
  obtain ⟨s1, hs1⟩ : ∃ s, encT (p ++ b) = s := ⟨_, rfl⟩
  obtain ⟨s2, hs2⟩ : ∃ s, encT p = s := ⟨_, rfl⟩
  obtain ⟨s3, hs3⟩ : ∃ s, encT b = s := ⟨_, rfl⟩
  have hS : s1 = s2 ++ s3 := by rw [← hs1, ← hs2, ← hs3]; exact HE.out
  have HS := hid hS
  have hsz2 : s2.size ≤ 10000 := by rw [← hs2]; unfold encT; rw [str_size, List.length_map, BM.encD_len, HP.out]; omega
  have hsz3 : s3.size ≤ 10000 := by rw [← hs3]; unfold encT; rw [str_size, List.length_map, BM.encD_len]; omega
  have C1 := hid (encode_to r3 (by rw [List.length_append, HP.out]) hs1 (by rw [List.length_append, HP.out]; omega))
  have C2 := hid (fun W (h : Rd W A ca p) => encode_to h HP.out hs2 (by rw [HP.out]; omega))
  have C3 := hid (fun W (h : Rd W B cb b) => encode_to h rfl hs3 (by omega))
  clear hS hs1 hs2 hs3 r3
  go_wp2_with fail
  refine C1.out.mono ?_
  rintro e w4 ⟨rfl, x4⟩
  go_wp2_with fail
  refine (C2.out _ (ra.out.ext x4)).mono ?_
  rintro e w5 ⟨rfl, x5⟩
  go_wp2_with fail
  refine (C3.out _ ((rb.out.ext x4).ext x5)).mono ?_
  rintro e w6 ⟨rfl, x6⟩
  go_wp2_with fail
  go_ret
  refine ⟨ret_bool ?_, ext_trans (ext_trans (ext_trans X3.out x4) x5) x6⟩
  rw [HS.out]
  simp
end Go.Proofs.Ytgcdpkjohaplcaa

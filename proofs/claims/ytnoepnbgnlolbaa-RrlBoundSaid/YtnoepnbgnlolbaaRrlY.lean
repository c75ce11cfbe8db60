/- RrlKnown: the chapter's examples. -/
import Derived.Test.YtnoepnbgnlolbaaRrlX
namespace Go.Proofs.Ytnoepnbgnlolbaa
open Go.BK Go.RowKit Go.Maps
set_option linter.unusedVariables false
theorem wf_of (c : Int) (b : UInt8) (h : -9223372036854775808 ≤ c ∧ c ≤ 9223372036854775807) : wfK c ⟨#[b]⟩ := ⟨h, by show (1 : Nat) ≤ 255; decide⟩
theorem kn0 : stepE pA 100 7 ⟨#[97]⟩ ([] : List Ent) = ([⟨7, ⟨#[97]⟩, 100, 1⟩], 0) := by rfl
theorem kn1 : stepE pA 101 7 ⟨#[98]⟩ ([⟨7, ⟨#[97]⟩, 100, 1⟩] : List Ent) = ([⟨7, ⟨#[97]⟩, 100, 1⟩, ⟨7, ⟨#[98]⟩, 101, 1⟩], 0) := by rfl
theorem kn2 : stepE pA 102 8 ⟨#[97]⟩ ([⟨7, ⟨#[97]⟩, 100, 1⟩, ⟨7, ⟨#[98]⟩, 101, 1⟩] : List Ent) = ([⟨7, ⟨#[97]⟩, 100, 1⟩, ⟨7, ⟨#[98]⟩, 101, 1⟩], 2) := by rfl
theorem kn4 : stepE pA 110 8 ⟨#[97]⟩ ([⟨7, ⟨#[97]⟩, 100, 1⟩, ⟨7, ⟨#[98]⟩, 101, 1⟩] : List Ent) = ([⟨7, ⟨#[98]⟩, 101, 1⟩, ⟨8, ⟨#[97]⟩, 110, 1⟩], 0) := by rfl
theorem kn6 : countE 7 ⟨#[97]⟩ ([⟨7, ⟨#[98]⟩, 101, 1⟩, ⟨8, ⟨#[97]⟩, 110, 1⟩] : List Ent) = 0 := by rfl
theorem kn7 : countE 8 ⟨#[97]⟩ ([⟨7, ⟨#[98]⟩, 101, 1⟩, ⟨8, ⟨#[97]⟩, 110, 1⟩] : List Ent) = 1 := by rfl
theorem kn8 : stepE pA 110 7 ⟨#[98]⟩ ([⟨7, ⟨#[98]⟩, 101, 1⟩, ⟨8, ⟨#[97]⟩, 110, 1⟩] : List Ent) = ([⟨7, ⟨#[98]⟩, 101, 2⟩, ⟨8, ⟨#[97]⟩, 110, 1⟩], 0) := by rfl
theorem kn9 : countE 7 ⟨#[98]⟩ ([⟨7, ⟨#[98]⟩, 101, 2⟩, ⟨8, ⟨#[97]⟩, 110, 1⟩] : List Ent) = 2 := by rfl
theorem kn10 : stepE pA 111 7 ⟨#[98]⟩ ([⟨7, ⟨#[98]⟩, 101, 2⟩, ⟨8, ⟨#[97]⟩, 110, 1⟩] : List Ent) = ([⟨7, ⟨#[98]⟩, 111, 1⟩, ⟨8, ⟨#[97]⟩, 110, 1⟩], 0) := by rfl
theorem kn11 : countE 7 ⟨#[98]⟩ ([⟨7, ⟨#[98]⟩, 111, 1⟩, ⟨8, ⟨#[97]⟩, 110, 1⟩] : List Ent) = 1 := by rfl
set_option maxHeartbeats 4000000 in
set_option maxRecDepth 100000 in
theorem known_yes (w : World) : Calls Try.prog 4 #[] w fun e w' => e = .returned (.bool true) ∧ Below w.heap.size w w' := by
  have CN := hid (any_new 2 2 10 2 w pA_ok)
  go_enter Try.func4, Try.ntmps4
  go_wp2_with fail
  refine CN.out.mono ?_
  rintro e w1 ⟨g, rfl, hL, x1⟩
  have B := hid (show Below w.heap.size w w1 from x1)
  have L := hid (show AnyL (fun j => w.heap.size ≤ j) w1 g pA 0 [] from hL.mono fun j _ hj => hj.1)
  clear hL x1 CN
  go_wp2_with fail
  refine (new_no 0 1 1 1 _ (by unfold Par.ok; decide)).mono ?_
  rintro e wn ⟨rfl, rfl⟩
  go_wp2_with fail
  have hz := B.out.size
  refine (any_step 100 100 L.out (wf_of 7 97 (by decide)) (fun j hj => Nat.le_trans hz hj) (by decide) (by decide) kn0).mono ?_
  clear hz
  rintro e wn ⟨rfl, L2, s2⟩
  replace L := hid L2
  replace B := hid (Below.trans B.out (s2.below B.out.size (fun j hj h => by omega)))
  clear L2 s2
  go_wp2_with fail
  have hz := B.out.size
  refine (any_step 101 101 L.out (wf_of 7 98 (by decide)) (fun j hj => Nat.le_trans hz hj) (by decide) (by decide) kn1).mono ?_
  clear hz
  rintro e wn ⟨rfl, L2, s2⟩
  replace L := hid L2
  replace B := hid (Below.trans B.out (s2.below B.out.size (fun j hj h => by omega)))
  clear L2 s2
  go_wp2_with fail
  have hz := B.out.size
  refine (any_step 102 102 L.out (wf_of 8 97 (by decide)) (fun j hj => Nat.le_trans hz hj) (by decide) (by decide) kn2).mono ?_
  clear hz
  rintro e wn ⟨rfl, L2, s2⟩
  replace L := hid L2
  replace B := hid (Below.trans B.out (s2.below B.out.size (fun j hj h => by omega)))
  clear L2 s2
  go_wp2_with fail
  refine (any_len L.out).mono ?_
  rintro e wn ⟨rfl, rfl⟩
  go_wp2_with fail
  have hz := B.out.size
  refine (any_step 110 110 L.out (wf_of 8 97 (by decide)) (fun j hj => Nat.le_trans hz hj) (by decide) (by decide) kn4).mono ?_
  clear hz
  rintro e wn ⟨rfl, L2, s2⟩
  replace L := hid L2
  replace B := hid (Below.trans B.out (s2.below B.out.size (fun j hj h => by omega)))
  clear L2 s2
  go_wp2_with fail
  refine (any_len L.out).mono ?_
  rintro e wn ⟨rfl, rfl⟩
  go_wp2_with fail
  refine (any_count 7 ⟨#[97]⟩ L.out (wf_of 7 97 (by decide)) kn6).mono ?_
  rintro e wn ⟨rfl, rfl⟩
  go_wp2_with fail
  refine (any_count 8 ⟨#[97]⟩ L.out (wf_of 8 97 (by decide)) kn7).mono ?_
  rintro e wn ⟨rfl, rfl⟩
  go_wp2_with fail
  have hz := B.out.size
  refine (any_step 90 110 L.out (wf_of 7 98 (by decide)) (fun j hj => Nat.le_trans hz hj) (by decide) (by decide) kn8).mono ?_
  clear hz
  rintro e wn ⟨rfl, L2, s2⟩
  replace L := hid L2
  replace B := hid (Below.trans B.out (s2.below B.out.size (fun j hj h => by omega)))
  clear L2 s2
  go_wp2_with fail
  refine (any_count 7 ⟨#[98]⟩ L.out (wf_of 7 98 (by decide)) kn9).mono ?_
  rintro e wn ⟨rfl, rfl⟩
  go_wp2_with fail
  have hz := B.out.size
  refine (any_step 111 111 L.out (wf_of 7 98 (by decide)) (fun j hj => Nat.le_trans hz hj) (by decide) (by decide) kn10).mono ?_
  clear hz
  rintro e wn ⟨rfl, L2, s2⟩
  replace L := hid L2
  replace B := hid (Below.trans B.out (s2.below B.out.size (fun j hj h => by omega)))
  clear L2 s2
  go_wp2_with fail
  refine (any_count 7 ⟨#[98]⟩ L.out (wf_of 7 98 (by decide)) kn11).mono ?_
  rintro e wn ⟨rfl, rfl⟩
  go_wp2_with fail
  have hz := hid B.out.size
  refine (awake_yes _).mono ?_
  rintro e w9 ⟨rfl, x9⟩
  have B := hid (Below.trans B.out (x9.mono hz.out))
  clear x9
  go_wp2_with fail
  go_ret
  exact ⟨rfl, B.out⟩
end Go.Proofs.Ytnoepnbgnlolbaa

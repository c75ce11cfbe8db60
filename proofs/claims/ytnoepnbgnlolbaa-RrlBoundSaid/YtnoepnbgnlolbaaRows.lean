/-
  No cell of these rows narrows 'for every input' (looked for: loops, veiled, ifaces, maps, wideKeys, modest, calm, conditions, laid).
  DERIVED. THE GIVEN ROWS OF THIS SEAT. 5 by the template 'for every input the law returns true; each argument reads behind the call as it read before'; 0 by the template 'total and deterministic' (their statements: YtnoepnbgnlolbaaTotals.lean).
  GIVEN WITH THE SEED: the statements are not yours to turn. If you find one false, say at which input.
  Laid BY PROGRAM, IN A SANDBOX (cutbox-rows.mjs): the forced cells as the released guide's own fill.sh prints them over the translation 96b767ca21a4298e… (all of the seat's roots in one cut). By AI agents, Wed Nov 11 2026. No macro, syntax, notation, axiom, sorry.
-/
import Derived.Test.YtnoepnbgnlolbaaChecked
import GoSem.Claim
import GoSem.ClaimJoined
import GoSem.ClaimMapViews
import Derived.JoinedTies
import Derived.KernelRfl
namespace Go.Proofs.Ytnoepnbgnlolbaa
/- THE CELL 'sum', in the pinned program and in every row, IS THE sha256 OF THE DUMP (.gsa) THAT YtnoepnbgnlolbaaProg.lean LOADS. Nothing in Lean hashes anything: it is a label: what it is worth is what the hold of that sum in a sandbox is worth. -/
noncomputable def Try.pinned : Pinned := { name := "ytnoepnbgnlolbaa", sum := "96b767ca21a4298eb6f4507d473f7ef2cb03776c126fc574b69aad6862ebe8dc", checked := Try.checked }
namespace Rows
def none {H : Type} : Left H := { results := [], args := [] }

/-- 'ostiarylaw19.RrlNone': WHATEVER THE INPUT: true; the input reads as it did. -/
def rrlNoneSpec : ChangeSpec := { name := "rrlNone", fn := fun _ => fun
  | [d1, d2, d3] => { results := [.lit (.bool true)], args := [d1, d2, d3] }
  | _ => none }
def rrlNoneRow : OpenClaim := { program := "ytnoepnbgnlolbaa", sum := "96b767ca21a4298eb6f4507d473f7ef2cb03776c126fc574b69aad6862ebe8dc", func := "ostiary/ostiarylaw19.RrlNone", spec := "rrlNone", plainKeys := false, apart := false }
def RrlNoneSaid : Prop := rrlNoneRow.holds Try.pinned (OpenSpec.ofChange rrlNoneSpec)

/-- ITS FALSE NEIGHBOUR: 'it returns false'. Refute it at one input. -/
def rrlNoneWrong : ChangeSpec := { name := "rrlNone", fn := fun _ => fun
  | [d1, d2, d3] => { results := [.lit (.bool false)], args := [d1, d2, d3] }
  | _ => none }
def RrlNoneWrongFalsely : Prop := rrlNoneRow.holds Try.pinned (OpenSpec.ofChange rrlNoneWrong)

/-- 'ostiarylaw19.RrlKnown': WHATEVER THE INPUT: true; the input reads as it did. -/
def rrlKnownSpec : ChangeSpec := { name := "rrlKnown", fn := fun _ => fun
  | [] => { results := [.lit (.bool true)], args := [] }
  | _ => none }
def rrlKnownRow : OpenClaim := { program := "ytnoepnbgnlolbaa", sum := "96b767ca21a4298eb6f4507d473f7ef2cb03776c126fc574b69aad6862ebe8dc", func := "ostiary/ostiarylaw19.RrlKnown", spec := "rrlKnown", plainKeys := false, apart := false }
def RrlKnownSaid : Prop := rrlKnownRow.holds Try.pinned (OpenSpec.ofChange rrlKnownSpec)

/-- ITS FALSE NEIGHBOUR: 'it returns false'. Refute it at one input. -/
def rrlKnownWrong : ChangeSpec := { name := "rrlKnown", fn := fun _ => fun
  | [] => { results := [.lit (.bool false)], args := [] }
  | _ => none }
def RrlKnownWrongFalsely : Prop := rrlKnownRow.holds Try.pinned (OpenSpec.ofChange rrlKnownWrong)

/-- 'ostiarylaw19.RrlBound': WHATEVER THE INPUT: true; the input reads as it did. -/
def rrlBoundSpec : ChangeSpec := { name := "rrlBound", fn := fun _ => fun
  | [d1, d2, d3, d4, d5] => { results := [.lit (.bool true)], args := [d1, d2, d3, d4, d5] }
  | _ => none }
def rrlBoundRow : OpenClaim := { program := "ytnoepnbgnlolbaa", sum := "96b767ca21a4298eb6f4507d473f7ef2cb03776c126fc574b69aad6862ebe8dc", func := "ostiary/ostiarylaw19.RrlBound", spec := "rrlBound", plainKeys := false, apart := false }
def RrlBoundSaid : Prop := rrlBoundRow.holds Try.pinned (OpenSpec.ofChange rrlBoundSpec)

/-- ITS FALSE NEIGHBOUR: 'it returns false'. Refute it at one input. -/
def rrlBoundWrong : ChangeSpec := { name := "rrlBound", fn := fun _ => fun
  | [d1, d2, d3, d4, d5] => { results := [.lit (.bool false)], args := [d1, d2, d3, d4, d5] }
  | _ => none }
def RrlBoundWrongFalsely : Prop := rrlBoundRow.holds Try.pinned (OpenSpec.ofChange rrlBoundWrong)

/-- 'ostiarylaw19.RrlApart': WHATEVER THE INPUT: true; the input reads as it did. -/
def rrlApartSpec : ChangeSpec := { name := "rrlApart", fn := fun _ => fun
  | [d1, d2, d3, d4] => { results := [.lit (.bool true)], args := [d1, d2, d3, d4] }
  | _ => none }
def rrlApartRow : OpenClaim := { program := "ytnoepnbgnlolbaa", sum := "96b767ca21a4298eb6f4507d473f7ef2cb03776c126fc574b69aad6862ebe8dc", func := "ostiary/ostiarylaw19.RrlApart", spec := "rrlApart", plainKeys := false, apart := false }
def RrlApartSaid : Prop := rrlApartRow.holds Try.pinned (OpenSpec.ofChange rrlApartSpec)

/-- ITS FALSE NEIGHBOUR: 'it returns false'. Refute it at one input. -/
def rrlApartWrong : ChangeSpec := { name := "rrlApart", fn := fun _ => fun
  | [d1, d2, d3, d4] => { results := [.lit (.bool false)], args := [d1, d2, d3, d4] }
  | _ => none }
def RrlApartWrongFalsely : Prop := rrlApartRow.holds Try.pinned (OpenSpec.ofChange rrlApartWrong)

/-- 'ostiarylaw19.RrlAnew': WHATEVER THE INPUT: true; the input reads as it did. -/
def rrlAnewSpec : ChangeSpec := { name := "rrlAnew", fn := fun _ => fun
  | [d1, d2, d3, d4, d5] => { results := [.lit (.bool true)], args := [d1, d2, d3, d4, d5] }
  | _ => none }
def rrlAnewRow : OpenClaim := { program := "ytnoepnbgnlolbaa", sum := "96b767ca21a4298eb6f4507d473f7ef2cb03776c126fc574b69aad6862ebe8dc", func := "ostiary/ostiarylaw19.RrlAnew", spec := "rrlAnew", plainKeys := false, apart := false }
def RrlAnewSaid : Prop := rrlAnewRow.holds Try.pinned (OpenSpec.ofChange rrlAnewSpec)

/-- ITS FALSE NEIGHBOUR: 'it returns false'. Refute it at one input. -/
def rrlAnewWrong : ChangeSpec := { name := "rrlAnew", fn := fun _ => fun
  | [d1, d2, d3, d4, d5] => { results := [.lit (.bool false)], args := [d1, d2, d3, d4, d5] }
  | _ => none }
def RrlAnewWrongFalsely : Prop := rrlAnewRow.holds Try.pinned (OpenSpec.ofChange rrlAnewWrong)

/- THE SECOND FORM. 'bulk': how many values and letters a reading holds, each counted each time it is reached (what is shared counts as often as it is met; a slice's spare places count too). A statement '..UptoSaid' is the law's where the arguments, and the package variables that the reading takes, are together of bulk at most 1048576: NARROWER than '..Said'. Prove '..Said' where nothing that the law and all that it calls make is longer than what came in: it says more and counts as full. Else prove '..UptoSaid'. A law counts once. -/
mutual
def uptoBulk {H : Type} : DataW H → Nat
  | .lit (.string bytes) => bytes.length + 1
  | .lit _ => 1
  | .nil => 1
  | .ptr d => uptoBulk d + 1
  | .slice elems spare => uptoBulkAll elems + uptoBulkAll spare + 1
  | .agg parts => uptoBulkAll parts + 1
  | .iface _ d => uptoBulk d + 1
  | .map entries => uptoBulkEntries entries + 1
  | .held _ => 1
def uptoBulkAll {H : Type} : List (DataW H) → Nat
  | [] => 0
  | d :: r => uptoBulk d + uptoBulkAll r
def uptoBulkEntries {H : Type} : List (Lit × DataW H) → Nat
  | [] => 0
  | x :: r => uptoBulkEntry x + uptoBulkEntries r
def uptoBulkEntry {H : Type} : Lit × DataW H → Nat
  | (.string bytes, d) => bytes.length + uptoBulk d + 1
  | (_, d) => uptoBulk d + 1
 end
def uptoSmall : (H : Type) → List (DataW H) → Bool := fun _ ds => decide (uptoBulkAll ds ≤ 1048576)
def OpenSpec.upto (s : _root_.Go.ChangeSpec) : _root_.Go.OpenSpec := { _root_.Go.OpenSpec.ofChange s with cond := some uptoSmall }

/-- 'ostiarylaw19.RrlNone', WHERE WHAT IT READS IS OF BULK AT MOST 1048576: true; the input reads as it did. -/
def rrlNoneUptoRow : OpenClaim := { program := "ytnoepnbgnlolbaa", sum := "96b767ca21a4298eb6f4507d473f7ef2cb03776c126fc574b69aad6862ebe8dc", func := "ostiary/ostiarylaw19.RrlNone", spec := "rrlNone", plainKeys := false, apart := false, narrowed := true }
def RrlNoneUptoSaid : Prop := rrlNoneUptoRow.holds Try.pinned (OpenSpec.upto rrlNoneSpec)

/-- 'ostiarylaw19.RrlKnown', WHERE WHAT IT READS IS OF BULK AT MOST 1048576: true; the input reads as it did. -/
def rrlKnownUptoRow : OpenClaim := { program := "ytnoepnbgnlolbaa", sum := "96b767ca21a4298eb6f4507d473f7ef2cb03776c126fc574b69aad6862ebe8dc", func := "ostiary/ostiarylaw19.RrlKnown", spec := "rrlKnown", plainKeys := false, apart := false, narrowed := true }
def RrlKnownUptoSaid : Prop := rrlKnownUptoRow.holds Try.pinned (OpenSpec.upto rrlKnownSpec)

/-- 'ostiarylaw19.RrlBound', WHERE WHAT IT READS IS OF BULK AT MOST 1048576: true; the input reads as it did. -/
def rrlBoundUptoRow : OpenClaim := { program := "ytnoepnbgnlolbaa", sum := "96b767ca21a4298eb6f4507d473f7ef2cb03776c126fc574b69aad6862ebe8dc", func := "ostiary/ostiarylaw19.RrlBound", spec := "rrlBound", plainKeys := false, apart := false, narrowed := true }
def RrlBoundUptoSaid : Prop := rrlBoundUptoRow.holds Try.pinned (OpenSpec.upto rrlBoundSpec)

/-- 'ostiarylaw19.RrlApart', WHERE WHAT IT READS IS OF BULK AT MOST 1048576: true; the input reads as it did. -/
def rrlApartUptoRow : OpenClaim := { program := "ytnoepnbgnlolbaa", sum := "96b767ca21a4298eb6f4507d473f7ef2cb03776c126fc574b69aad6862ebe8dc", func := "ostiary/ostiarylaw19.RrlApart", spec := "rrlApart", plainKeys := false, apart := false, narrowed := true }
def RrlApartUptoSaid : Prop := rrlApartUptoRow.holds Try.pinned (OpenSpec.upto rrlApartSpec)

/-- 'ostiarylaw19.RrlAnew', WHERE WHAT IT READS IS OF BULK AT MOST 1048576: true; the input reads as it did. -/
def rrlAnewUptoRow : OpenClaim := { program := "ytnoepnbgnlolbaa", sum := "96b767ca21a4298eb6f4507d473f7ef2cb03776c126fc574b69aad6862ebe8dc", func := "ostiary/ostiarylaw19.RrlAnew", spec := "rrlAnew", plainKeys := false, apart := false, narrowed := true }
def RrlAnewUptoSaid : Prop := rrlAnewUptoRow.holds Try.pinned (OpenSpec.upto rrlAnewSpec)

end Rows
end Go.Proofs.Ytnoepnbgnlolbaa

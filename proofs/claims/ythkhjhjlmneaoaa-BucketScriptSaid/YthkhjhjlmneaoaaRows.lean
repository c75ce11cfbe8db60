/-
  No cell of these rows narrows 'for every input' (looked for: loops, veiled, ifaces, maps, wideKeys, modest, calm, conditions, laid).
  DERIVED. THE GIVEN ROWS OF THIS SEAT. 6 by the template 'for every input the law returns true; each argument reads behind the call as it read before'; 0 by the template 'total and deterministic' (their statements: YthkhjhjlmneaoaaTotals.lean).
  GIVEN WITH THE SEED: the statements are not yours to turn. If you find one false, say at which input.
  Laid BY PROGRAM, IN A SANDBOX (cutbox-rows.mjs): the forced cells as the released guide's own fill.sh prints them over the translation ebcefcf258afad9e… (all of the seat's roots in one cut). By AI agents, Wed Nov 11 2026. No macro, syntax, notation, axiom, sorry.
-/
import Derived.Test.YthkhjhjlmneaoaaChecked
import GoSem.Claim
import GoSem.ClaimJoined
import GoSem.ClaimMapViews
import Derived.JoinedTies
import Derived.KernelRfl
namespace Go.Proofs.Ythkhjhjlmneaoaa
/- THE CELL 'sum', in the pinned program and in every row, IS THE sha256 OF THE DUMP (.gsa) THAT YthkhjhjlmneaoaaProg.lean LOADS. Nothing in Lean hashes anything: it is a label: what it is worth is what the hold of that sum in a sandbox is worth. -/
noncomputable def Try.pinned : Pinned := { name := "ythkhjhjlmneaoaa", sum := "ebcefcf258afad9ebc0231466de2601e16e3d41d52b543f89bbd5f588a5672ee", checked := Try.checked }
namespace Rows
def none {H : Type} : Left H := { results := [], args := [] }

/-- 'ostiarylaw18.BucketNew': WHATEVER THE INPUT: true; the input reads as it did. -/
def bucketNewSpec : ChangeSpec := { name := "bucketNew", fn := fun _ => fun
  | [d1, d2, d3, d4, d5] => { results := [.lit (.bool true)], args := [d1, d2, d3, d4, d5] }
  | _ => none }
def bucketNewRow : OpenClaim := { program := "ythkhjhjlmneaoaa", sum := "ebcefcf258afad9ebc0231466de2601e16e3d41d52b543f89bbd5f588a5672ee", func := "ostiary/ostiarylaw18.BucketNew", spec := "bucketNew", named := ["math/bits.divideError", "math/bits.overflowError"], apart := false }
def BucketNewSaid : Prop := bucketNewRow.holds Try.pinned (OpenSpec.ofChange bucketNewSpec)

/-- ITS FALSE NEIGHBOUR: 'it returns false'. Refute it at one input. -/
def bucketNewWrong : ChangeSpec := { name := "bucketNew", fn := fun _ => fun
  | [d1, d2, d3, d4, d5] => { results := [.lit (.bool false)], args := [d1, d2, d3, d4, d5] }
  | _ => none }
def BucketNewWrongFalsely : Prop := bucketNewRow.holds Try.pinned (OpenSpec.ofChange bucketNewWrong)

/-- 'ostiarylaw18.BucketWhen': WHATEVER THE INPUT: true; the input reads as it did. -/
def bucketWhenSpec : ChangeSpec := { name := "bucketWhen", fn := fun _ => fun
  | [d1, d2, d3, d4, d5] => { results := [.lit (.bool true)], args := [d1, d2, d3, d4, d5] }
  | _ => none }
def bucketWhenRow : OpenClaim := { program := "ythkhjhjlmneaoaa", sum := "ebcefcf258afad9ebc0231466de2601e16e3d41d52b543f89bbd5f588a5672ee", func := "ostiary/ostiarylaw18.BucketWhen", spec := "bucketWhen", named := ["math/bits.divideError", "math/bits.overflowError"], apart := false }
def BucketWhenSaid : Prop := bucketWhenRow.holds Try.pinned (OpenSpec.ofChange bucketWhenSpec)

/-- ITS FALSE NEIGHBOUR: 'it returns false'. Refute it at one input. -/
def bucketWhenWrong : ChangeSpec := { name := "bucketWhen", fn := fun _ => fun
  | [d1, d2, d3, d4, d5] => { results := [.lit (.bool false)], args := [d1, d2, d3, d4, d5] }
  | _ => none }
def BucketWhenWrongFalsely : Prop := bucketWhenRow.holds Try.pinned (OpenSpec.ofChange bucketWhenWrong)

/-- 'ostiarylaw18.BucketScript': WHATEVER THE INPUT: true; the input reads as it did. -/
def bucketScriptSpec : ChangeSpec := { name := "bucketScript", fn := fun _ => fun
  | [d1, d2, d3, d4] => { results := [.lit (.bool true)], args := [d1, d2, d3, d4] }
  | _ => none }
def bucketScriptRow : OpenClaim := { program := "ythkhjhjlmneaoaa", sum := "ebcefcf258afad9ebc0231466de2601e16e3d41d52b543f89bbd5f588a5672ee", func := "ostiary/ostiarylaw18.BucketScript", spec := "bucketScript", named := ["math/bits.divideError", "math/bits.overflowError"], apart := false }
def BucketScriptSaid : Prop := bucketScriptRow.holds Try.pinned (OpenSpec.ofChange bucketScriptSpec)

/-- ITS FALSE NEIGHBOUR: 'it returns false'. Refute it at one input. -/
def bucketScriptWrong : ChangeSpec := { name := "bucketScript", fn := fun _ => fun
  | [d1, d2, d3, d4] => { results := [.lit (.bool false)], args := [d1, d2, d3, d4] }
  | _ => none }
def BucketScriptWrongFalsely : Prop := bucketScriptRow.holds Try.pinned (OpenSpec.ofChange bucketScriptWrong)

/-- 'ostiarylaw18.BucketNone': WHATEVER THE INPUT: true; the input reads as it did. -/
def bucketNoneSpec : ChangeSpec := { name := "bucketNone", fn := fun _ => fun
  | [d1, d2] => { results := [.lit (.bool true)], args := [d1, d2] }
  | _ => none }
def bucketNoneRow : OpenClaim := { program := "ythkhjhjlmneaoaa", sum := "ebcefcf258afad9ebc0231466de2601e16e3d41d52b543f89bbd5f588a5672ee", func := "ostiary/ostiarylaw18.BucketNone", spec := "bucketNone", named := ["math/bits.divideError", "math/bits.overflowError"], apart := false }
def BucketNoneSaid : Prop := bucketNoneRow.holds Try.pinned (OpenSpec.ofChange bucketNoneSpec)

/-- ITS FALSE NEIGHBOUR: 'it returns false'. Refute it at one input. -/
def bucketNoneWrong : ChangeSpec := { name := "bucketNone", fn := fun _ => fun
  | [d1, d2] => { results := [.lit (.bool false)], args := [d1, d2] }
  | _ => none }
def BucketNoneWrongFalsely : Prop := bucketNoneRow.holds Try.pinned (OpenSpec.ofChange bucketNoneWrong)

/-- 'ostiarylaw18.BucketKnown': WHATEVER THE INPUT: true; the input reads as it did. -/
def bucketKnownSpec : ChangeSpec := { name := "bucketKnown", fn := fun _ => fun
  | [] => { results := [.lit (.bool true)], args := [] }
  | _ => none }
def bucketKnownRow : OpenClaim := { program := "ythkhjhjlmneaoaa", sum := "ebcefcf258afad9ebc0231466de2601e16e3d41d52b543f89bbd5f588a5672ee", func := "ostiary/ostiarylaw18.BucketKnown", spec := "bucketKnown", named := ["math/bits.divideError", "math/bits.overflowError"], apart := false }
def BucketKnownSaid : Prop := bucketKnownRow.holds Try.pinned (OpenSpec.ofChange bucketKnownSpec)

/-- ITS FALSE NEIGHBOUR: 'it returns false'. Refute it at one input. -/
def bucketKnownWrong : ChangeSpec := { name := "bucketKnown", fn := fun _ => fun
  | [] => { results := [.lit (.bool false)], args := [] }
  | _ => none }
def BucketKnownWrongFalsely : Prop := bucketKnownRow.holds Try.pinned (OpenSpec.ofChange bucketKnownWrong)

/-- 'ostiarylaw18.BucketBound': WHATEVER THE INPUT: true; the input reads as it did. -/
def bucketBoundSpec : ChangeSpec := { name := "bucketBound", fn := fun _ => fun
  | [d1, d2, d3, d4] => { results := [.lit (.bool true)], args := [d1, d2, d3, d4] }
  | _ => none }
def bucketBoundRow : OpenClaim := { program := "ythkhjhjlmneaoaa", sum := "ebcefcf258afad9ebc0231466de2601e16e3d41d52b543f89bbd5f588a5672ee", func := "ostiary/ostiarylaw18.BucketBound", spec := "bucketBound", named := ["math/bits.divideError", "math/bits.overflowError"], apart := false }
def BucketBoundSaid : Prop := bucketBoundRow.holds Try.pinned (OpenSpec.ofChange bucketBoundSpec)

/-- ITS FALSE NEIGHBOUR: 'it returns false'. Refute it at one input. -/
def bucketBoundWrong : ChangeSpec := { name := "bucketBound", fn := fun _ => fun
  | [d1, d2, d3, d4] => { results := [.lit (.bool false)], args := [d1, d2, d3, d4] }
  | _ => none }
def BucketBoundWrongFalsely : Prop := bucketBoundRow.holds Try.pinned (OpenSpec.ofChange bucketBoundWrong)

/- THE SECOND FORM. 'bulk': how many values and letters a reading holds, each counted each time it is reached (what is shared counts as often as it is met; a slice's spare places count too). A statement '..UptoSaid' is the law's where the arguments, and the package variables that the reading takes, are together of bulk at most 1048576: NARROWER than '..Said'. Prove '..Said' where nothing that the law and all that it calls make is longer than what came in: it says more and counts as full. Else prove '..UptoSaid'. A law counts once. -/
mutual
def uptoBulk {H : Type} : DataW H → Nat
  | .lit (.string bytes) => bytes.length + 1
  | .lit _ => 1
  | .nil => 1
  | .ptr d => uptoBulk d + 1
  | .slice elems spare => uptoBulkAll elems + uptoBulkAll spare + 1
  | .agg parts => uptoBulkAll parts + 1
  | .iface _ d => uptoBulk d + 1
  | .map entries => uptoBulkEntries entries + 1
  | .held _ => 1
def uptoBulkAll {H : Type} : List (DataW H) → Nat
  | [] => 0
  | d :: r => uptoBulk d + uptoBulkAll r
def uptoBulkEntries {H : Type} : List (Lit × DataW H) → Nat
  | [] => 0
  | x :: r => uptoBulkEntry x + uptoBulkEntries r
def uptoBulkEntry {H : Type} : Lit × DataW H → Nat
  | (.string bytes, d) => bytes.length + uptoBulk d + 1
  | (_, d) => uptoBulk d + 1
 end
def uptoSmall : (H : Type) → List (DataW H) → Bool := fun _ ds => decide (uptoBulkAll ds ≤ 1048576)
def OpenSpec.upto (s : _root_.Go.ChangeSpec) : _root_.Go.OpenSpec := { _root_.Go.OpenSpec.ofChange s with cond := some uptoSmall }

/-- 'ostiarylaw18.BucketNew', WHERE WHAT IT READS IS OF BULK AT MOST 1048576: true; the input reads as it did. -/
def bucketNewUptoRow : OpenClaim := { program := "ythkhjhjlmneaoaa", sum := "ebcefcf258afad9ebc0231466de2601e16e3d41d52b543f89bbd5f588a5672ee", func := "ostiary/ostiarylaw18.BucketNew", spec := "bucketNew", named := ["math/bits.divideError", "math/bits.overflowError"], apart := false, narrowed := true }
def BucketNewUptoSaid : Prop := bucketNewUptoRow.holds Try.pinned (OpenSpec.upto bucketNewSpec)

/-- 'ostiarylaw18.BucketWhen', WHERE WHAT IT READS IS OF BULK AT MOST 1048576: true; the input reads as it did. -/
def bucketWhenUptoRow : OpenClaim := { program := "ythkhjhjlmneaoaa", sum := "ebcefcf258afad9ebc0231466de2601e16e3d41d52b543f89bbd5f588a5672ee", func := "ostiary/ostiarylaw18.BucketWhen", spec := "bucketWhen", named := ["math/bits.divideError", "math/bits.overflowError"], apart := false, narrowed := true }
def BucketWhenUptoSaid : Prop := bucketWhenUptoRow.holds Try.pinned (OpenSpec.upto bucketWhenSpec)

/-- 'ostiarylaw18.BucketScript', WHERE WHAT IT READS IS OF BULK AT MOST 1048576: true; the input reads as it did. -/
def bucketScriptUptoRow : OpenClaim := { program := "ythkhjhjlmneaoaa", sum := "ebcefcf258afad9ebc0231466de2601e16e3d41d52b543f89bbd5f588a5672ee", func := "ostiary/ostiarylaw18.BucketScript", spec := "bucketScript", named := ["math/bits.divideError", "math/bits.overflowError"], apart := false, narrowed := true }
def BucketScriptUptoSaid : Prop := bucketScriptUptoRow.holds Try.pinned (OpenSpec.upto bucketScriptSpec)

/-- 'ostiarylaw18.BucketNone', WHERE WHAT IT READS IS OF BULK AT MOST 1048576: true; the input reads as it did. -/
def bucketNoneUptoRow : OpenClaim := { program := "ythkhjhjlmneaoaa", sum := "ebcefcf258afad9ebc0231466de2601e16e3d41d52b543f89bbd5f588a5672ee", func := "ostiary/ostiarylaw18.BucketNone", spec := "bucketNone", named := ["math/bits.divideError", "math/bits.overflowError"], apart := false, narrowed := true }
def BucketNoneUptoSaid : Prop := bucketNoneUptoRow.holds Try.pinned (OpenSpec.upto bucketNoneSpec)

/-- 'ostiarylaw18.BucketKnown', WHERE WHAT IT READS IS OF BULK AT MOST 1048576: true; the input reads as it did. -/
def bucketKnownUptoRow : OpenClaim := { program := "ythkhjhjlmneaoaa", sum := "ebcefcf258afad9ebc0231466de2601e16e3d41d52b543f89bbd5f588a5672ee", func := "ostiary/ostiarylaw18.BucketKnown", spec := "bucketKnown", named := ["math/bits.divideError", "math/bits.overflowError"], apart := false, narrowed := true }
def BucketKnownUptoSaid : Prop := bucketKnownUptoRow.holds Try.pinned (OpenSpec.upto bucketKnownSpec)

/-- 'ostiarylaw18.BucketBound', WHERE WHAT IT READS IS OF BULK AT MOST 1048576: true; the input reads as it did. -/
def bucketBoundUptoRow : OpenClaim := { program := "ythkhjhjlmneaoaa", sum := "ebcefcf258afad9ebc0231466de2601e16e3d41d52b543f89bbd5f588a5672ee", func := "ostiary/ostiarylaw18.BucketBound", spec := "bucketBound", named := ["math/bits.divideError", "math/bits.overflowError"], apart := false, narrowed := true }
def BucketBoundUptoSaid : Prop := bucketBoundUptoRow.holds Try.pinned (OpenSpec.upto bucketBoundSpec)

end Rows
end Go.Proofs.Ythkhjhjlmneaoaa

/-
  No cell of these rows narrows 'for every input' (looked for: loops, veiled, ifaces, maps, wideKeys, modest, calm, conditions, laid).
  DERIVED. THE GIVEN ROWS OF THIS SEAT. 6 by the template 'for every input the law returns true; each argument reads behind the call as it read before'; 0 by the template 'total and deterministic' (their statements: YtghmhekbimfegaaTotals.lean).
  GIVEN WITH THE SEED: the statements are not yours to turn. If you find one false, say at which input.
  Laid BY PROGRAM, IN A SANDBOX (cutbox-rows.mjs): the forced cells as the released guide's own fill.sh prints them over the translation 2faf62c1d9a1a0ea… (all of the seat's roots in one cut). By AI agents, Wed Nov 11 2026. No macro, syntax, notation, axiom, sorry.
-/
import Derived.Test.YtghmhekbimfegaaChecked
import GoSem.Claim
import GoSem.ClaimJoined
import GoSem.ClaimMapViews
import Derived.JoinedTies
import Derived.KernelRfl
namespace Go.Proofs.Ytghmhekbimfegaa
/- THE CELL 'sum', in the pinned program and in every row, IS THE sha256 OF THE DUMP (.gsa) THAT YtghmhekbimfegaaProg.lean LOADS. Nothing in Lean hashes anything: it is a label: what it is worth is what the hold of that sum in a sandbox is worth. -/
noncomputable def Try.pinned : Pinned := { name := "ytghmhekbimfegaa", sum := "2faf62c1d9a1a0ea3685d41d3c659fe8ec4cb72dd726dc5b96fb0568769b7bad", checked := Try.checked }
namespace Rows
def none {H : Type} : Left H := { results := [], args := [] }

/-- 'ostiarylaw01.SaturReckons': WHATEVER THE INPUT: true; the input reads as it did. -/
def saturReckonsSpec : ChangeSpec := { name := "saturReckons", fn := fun _ => fun
  | [d1, d2] => { results := [.lit (.bool true)], args := [d1, d2] }
  | _ => none }
def saturReckonsRow : OpenClaim := { program := "ytghmhekbimfegaa", sum := "2faf62c1d9a1a0ea3685d41d3c659fe8ec4cb72dd726dc5b96fb0568769b7bad", func := "ostiary/ostiarylaw01.SaturReckons", spec := "saturReckons", named := ["math/bits.divideError", "math/bits.overflowError"], apart := false }
def SaturReckonsSaid : Prop := saturReckonsRow.holds Try.pinned (OpenSpec.ofChange saturReckonsSpec)

/-- ITS FALSE NEIGHBOUR: 'it returns false'. Refute it at one input. -/
def saturReckonsWrong : ChangeSpec := { name := "saturReckons", fn := fun _ => fun
  | [d1, d2] => { results := [.lit (.bool false)], args := [d1, d2] }
  | _ => none }
def SaturReckonsWrongFalsely : Prop := saturReckonsRow.holds Try.pinned (OpenSpec.ofChange saturReckonsWrong)

/-- 'ostiarylaw01.SaturScales': WHATEVER THE INPUT: true; the input reads as it did. -/
def saturScalesSpec : ChangeSpec := { name := "saturScales", fn := fun _ => fun
  | [d1, d2, d3] => { results := [.lit (.bool true)], args := [d1, d2, d3] }
  | _ => none }
def saturScalesRow : OpenClaim := { program := "ytghmhekbimfegaa", sum := "2faf62c1d9a1a0ea3685d41d3c659fe8ec4cb72dd726dc5b96fb0568769b7bad", func := "ostiary/ostiarylaw01.SaturScales", spec := "saturScales", named := ["math/bits.divideError", "math/bits.overflowError"], apart := false }
def SaturScalesSaid : Prop := saturScalesRow.holds Try.pinned (OpenSpec.ofChange saturScalesSpec)

/-- ITS FALSE NEIGHBOUR: 'it returns false'. Refute it at one input. -/
def saturScalesWrong : ChangeSpec := { name := "saturScales", fn := fun _ => fun
  | [d1, d2, d3] => { results := [.lit (.bool false)], args := [d1, d2, d3] }
  | _ => none }
def SaturScalesWrongFalsely : Prop := saturScalesRow.holds Try.pinned (OpenSpec.ofChange saturScalesWrong)

/-- 'ostiarylaw01.SaturParts': WHATEVER THE INPUT: true; the input reads as it did. -/
def saturPartsSpec : ChangeSpec := { name := "saturParts", fn := fun _ => fun
  | [d1, d2, d3] => { results := [.lit (.bool true)], args := [d1, d2, d3] }
  | _ => none }
def saturPartsRow : OpenClaim := { program := "ytghmhekbimfegaa", sum := "2faf62c1d9a1a0ea3685d41d3c659fe8ec4cb72dd726dc5b96fb0568769b7bad", func := "ostiary/ostiarylaw01.SaturParts", spec := "saturParts", named := ["math/bits.divideError", "math/bits.overflowError"], apart := false }
def SaturPartsSaid : Prop := saturPartsRow.holds Try.pinned (OpenSpec.ofChange saturPartsSpec)

/-- ITS FALSE NEIGHBOUR: 'it returns false'. Refute it at one input. -/
def saturPartsWrong : ChangeSpec := { name := "saturParts", fn := fun _ => fun
  | [d1, d2, d3] => { results := [.lit (.bool false)], args := [d1, d2, d3] }
  | _ => none }
def SaturPartsWrongFalsely : Prop := saturPartsRow.holds Try.pinned (OpenSpec.ofChange saturPartsWrong)

/-- 'ostiarylaw01.SaturSums': WHATEVER THE INPUT: true; the input reads as it did. -/
def saturSumsSpec : ChangeSpec := { name := "saturSums", fn := fun _ => fun
  | [d] => { results := [.lit (.bool true)], args := [d] }
  | _ => none }
def saturSumsRow : OpenClaim := { program := "ytghmhekbimfegaa", sum := "2faf62c1d9a1a0ea3685d41d3c659fe8ec4cb72dd726dc5b96fb0568769b7bad", func := "ostiary/ostiarylaw01.SaturSums", spec := "saturSums", named := ["math/bits.divideError", "math/bits.overflowError"], apart := false }
def SaturSumsSaid : Prop := saturSumsRow.holds Try.pinned (OpenSpec.ofChange saturSumsSpec)

/-- ITS FALSE NEIGHBOUR: 'it returns false'. Refute it at one input. -/
def saturSumsWrong : ChangeSpec := { name := "saturSums", fn := fun _ => fun
  | [d] => { results := [.lit (.bool false)], args := [d] }
  | _ => none }
def SaturSumsWrongFalsely : Prop := saturSumsRow.holds Try.pinned (OpenSpec.ofChange saturSumsWrong)

/-- 'ostiarylaw01.SaturKnown': WHATEVER THE INPUT: true; the input reads as it did. -/
def saturKnownSpec : ChangeSpec := { name := "saturKnown", fn := fun _ => fun
  | [] => { results := [.lit (.bool true)], args := [] }
  | _ => none }
def saturKnownRow : OpenClaim := { program := "ytghmhekbimfegaa", sum := "2faf62c1d9a1a0ea3685d41d3c659fe8ec4cb72dd726dc5b96fb0568769b7bad", func := "ostiary/ostiarylaw01.SaturKnown", spec := "saturKnown", named := ["math/bits.divideError", "math/bits.overflowError"], apart := false }
def SaturKnownSaid : Prop := saturKnownRow.holds Try.pinned (OpenSpec.ofChange saturKnownSpec)

/-- ITS FALSE NEIGHBOUR: 'it returns false'. Refute it at one input. -/
def saturKnownWrong : ChangeSpec := { name := "saturKnown", fn := fun _ => fun
  | [] => { results := [.lit (.bool false)], args := [] }
  | _ => none }
def SaturKnownWrongFalsely : Prop := saturKnownRow.holds Try.pinned (OpenSpec.ofChange saturKnownWrong)

/-- 'ostiarylaw01.SaturNever': WHATEVER THE INPUT: true; the input reads as it did. -/
def saturNeverSpec : ChangeSpec := { name := "saturNever", fn := fun _ => fun
  | [d1, d2, d3] => { results := [.lit (.bool true)], args := [d1, d2, d3] }
  | _ => none }
def saturNeverRow : OpenClaim := { program := "ytghmhekbimfegaa", sum := "2faf62c1d9a1a0ea3685d41d3c659fe8ec4cb72dd726dc5b96fb0568769b7bad", func := "ostiary/ostiarylaw01.SaturNever", spec := "saturNever", named := ["math/bits.divideError", "math/bits.overflowError"], apart := false }
def SaturNeverSaid : Prop := saturNeverRow.holds Try.pinned (OpenSpec.ofChange saturNeverSpec)

/-- ITS FALSE NEIGHBOUR: 'it returns false'. Refute it at one input. -/
def saturNeverWrong : ChangeSpec := { name := "saturNever", fn := fun _ => fun
  | [d1, d2, d3] => { results := [.lit (.bool false)], args := [d1, d2, d3] }
  | _ => none }
def SaturNeverWrongFalsely : Prop := saturNeverRow.holds Try.pinned (OpenSpec.ofChange saturNeverWrong)

/- THE SECOND FORM. 'bulk': how many values and letters a reading holds, each counted each time it is reached (what is shared counts as often as it is met; a slice's spare places count too). A statement '..UptoSaid' is the law's where the arguments, and the package variables that the reading takes, are together of bulk at most 1048576: NARROWER than '..Said'. Prove '..Said' where nothing that the law and all that it calls make is longer than what came in: it says more and counts as full. Else prove '..UptoSaid'. A law counts once. -/
mutual
def uptoBulk {H : Type} : DataW H → Nat
  | .lit (.string bytes) => bytes.length + 1
  | .lit _ => 1
  | .nil => 1
  | .ptr d => uptoBulk d + 1
  | .slice elems spare => uptoBulkAll elems + uptoBulkAll spare + 1
  | .agg parts => uptoBulkAll parts + 1
  | .iface _ d => uptoBulk d + 1
  | .map entries => uptoBulkEntries entries + 1
  | .held _ => 1
def uptoBulkAll {H : Type} : List (DataW H) → Nat
  | [] => 0
  | d :: r => uptoBulk d + uptoBulkAll r
def uptoBulkEntries {H : Type} : List (Lit × DataW H) → Nat
  | [] => 0
  | x :: r => uptoBulkEntry x + uptoBulkEntries r
def uptoBulkEntry {H : Type} : Lit × DataW H → Nat
  | (.string bytes, d) => bytes.length + uptoBulk d + 1
  | (_, d) => uptoBulk d + 1
 end
def uptoSmall : (H : Type) → List (DataW H) → Bool := fun _ ds => decide (uptoBulkAll ds ≤ 1048576)
def OpenSpec.upto (s : _root_.Go.ChangeSpec) : _root_.Go.OpenSpec := { _root_.Go.OpenSpec.ofChange s with cond := some uptoSmall }

/-- 'ostiarylaw01.SaturReckons', WHERE WHAT IT READS IS OF BULK AT MOST 1048576: true; the input reads as it did. -/
def saturReckonsUptoRow : OpenClaim := { program := "ytghmhekbimfegaa", sum := "2faf62c1d9a1a0ea3685d41d3c659fe8ec4cb72dd726dc5b96fb0568769b7bad", func := "ostiary/ostiarylaw01.SaturReckons", spec := "saturReckons", named := ["math/bits.divideError", "math/bits.overflowError"], apart := false, narrowed := true }
def SaturReckonsUptoSaid : Prop := saturReckonsUptoRow.holds Try.pinned (OpenSpec.upto saturReckonsSpec)

/-- 'ostiarylaw01.SaturScales', WHERE WHAT IT READS IS OF BULK AT MOST 1048576: true; the input reads as it did. -/
def saturScalesUptoRow : OpenClaim := { program := "ytghmhekbimfegaa", sum := "2faf62c1d9a1a0ea3685d41d3c659fe8ec4cb72dd726dc5b96fb0568769b7bad", func := "ostiary/ostiarylaw01.SaturScales", spec := "saturScales", named := ["math/bits.divideError", "math/bits.overflowError"], apart := false, narrowed := true }
def SaturScalesUptoSaid : Prop := saturScalesUptoRow.holds Try.pinned (OpenSpec.upto saturScalesSpec)

/-- 'ostiarylaw01.SaturParts', WHERE WHAT IT READS IS OF BULK AT MOST 1048576: true; the input reads as it did. -/
def saturPartsUptoRow : OpenClaim := { program := "ytghmhekbimfegaa", sum := "2faf62c1d9a1a0ea3685d41d3c659fe8ec4cb72dd726dc5b96fb0568769b7bad", func := "ostiary/ostiarylaw01.SaturParts", spec := "saturParts", named := ["math/bits.divideError", "math/bits.overflowError"], apart := false, narrowed := true }
def SaturPartsUptoSaid : Prop := saturPartsUptoRow.holds Try.pinned (OpenSpec.upto saturPartsSpec)

/-- 'ostiarylaw01.SaturSums', WHERE WHAT IT READS IS OF BULK AT MOST 1048576: true; the input reads as it did. -/
def saturSumsUptoRow : OpenClaim := { program := "ytghmhekbimfegaa", sum := "2faf62c1d9a1a0ea3685d41d3c659fe8ec4cb72dd726dc5b96fb0568769b7bad", func := "ostiary/ostiarylaw01.SaturSums", spec := "saturSums", named := ["math/bits.divideError", "math/bits.overflowError"], apart := false, narrowed := true }
def SaturSumsUptoSaid : Prop := saturSumsUptoRow.holds Try.pinned (OpenSpec.upto saturSumsSpec)

/-- 'ostiarylaw01.SaturKnown', WHERE WHAT IT READS IS OF BULK AT MOST 1048576: true; the input reads as it did. -/
def saturKnownUptoRow : OpenClaim := { program := "ytghmhekbimfegaa", sum := "2faf62c1d9a1a0ea3685d41d3c659fe8ec4cb72dd726dc5b96fb0568769b7bad", func := "ostiary/ostiarylaw01.SaturKnown", spec := "saturKnown", named := ["math/bits.divideError", "math/bits.overflowError"], apart := false, narrowed := true }
def SaturKnownUptoSaid : Prop := saturKnownUptoRow.holds Try.pinned (OpenSpec.upto saturKnownSpec)

/-- 'ostiarylaw01.SaturNever', WHERE WHAT IT READS IS OF BULK AT MOST 1048576: true; the input reads as it did. -/
def saturNeverUptoRow : OpenClaim := { program := "ytghmhekbimfegaa", sum := "2faf62c1d9a1a0ea3685d41d3c659fe8ec4cb72dd726dc5b96fb0568769b7bad", func := "ostiary/ostiarylaw01.SaturNever", spec := "saturNever", named := ["math/bits.divideError", "math/bits.overflowError"], apart := false, narrowed := true }
def SaturNeverUptoSaid : Prop := saturNeverUptoRow.holds Try.pinned (OpenSpec.upto saturNeverSpec)

end Rows
end Go.Proofs.Ytghmhekbimfegaa

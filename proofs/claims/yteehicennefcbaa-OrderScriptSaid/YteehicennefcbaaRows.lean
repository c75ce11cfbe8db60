/-
  No cell of these rows narrows 'for every input' (looked for: loops, veiled, ifaces, maps, wideKeys, modest, calm, conditions, laid).
  DERIVED. THE GIVEN ROWS OF THIS SEAT. 5 by the template 'for every input the law returns true; each argument reads behind the call as it read before'; 0 by the template 'total and deterministic' (their statements: YteehicennefcbaaTotals.lean).
  GIVEN WITH THE SEED: the statements are not yours to turn. If you find one false, say at which input.
  Laid BY PROGRAM, IN A SANDBOX (cutbox-rows.mjs): the forced cells as the released guide's own fill.sh prints them over the translation aba6a973d7a418cf… (all of the seat's roots in one cut). By AI agents, Wed Nov 11 2026. No macro, syntax, notation, axiom, sorry.
-/
import Derived.Test.YteehicennefcbaaChecked
import GoSem.Claim
import GoSem.ClaimJoined
import GoSem.ClaimMapViews
import Derived.JoinedTies
import Derived.KernelRfl
namespace Go.Proofs.Yteehicennefcbaa
/- THE CELL 'sum', in the pinned program and in every row, IS THE sha256 OF THE DUMP (.gsa) THAT YteehicennefcbaaProg.lean LOADS. Nothing in Lean hashes anything: it is a label: what it is worth is what the hold of that sum in a sandbox is worth. -/
noncomputable def Try.pinned : Pinned := { name := "yteehicennefcbaa", sum := "aba6a973d7a418cff049a54aa3338a641638cead50228bbad403bb6464944b0f", checked := Try.checked }
namespace Rows
def none {H : Type} : Left H := { results := [], args := [] }

/-- 'ostiarylaw17.OrderWaits': WHATEVER THE INPUT: true; the input reads as it did. -/
def orderWaitsSpec : ChangeSpec := { name := "orderWaits", fn := fun _ => fun
  | [d1, d2] => { results := [.lit (.bool true)], args := [d1, d2] }
  | _ => none }
def orderWaitsRow : OpenClaim := { program := "yteehicennefcbaa", sum := "aba6a973d7a418cff049a54aa3338a641638cead50228bbad403bb6464944b0f", func := "ostiary/ostiarylaw17.OrderWaits", spec := "orderWaits", apart := false }
def OrderWaitsSaid : Prop := orderWaitsRow.holds Try.pinned (OpenSpec.ofChange orderWaitsSpec)

/-- ITS FALSE NEIGHBOUR: 'it returns false'. Refute it at one input. -/
def orderWaitsWrong : ChangeSpec := { name := "orderWaits", fn := fun _ => fun
  | [d1, d2] => { results := [.lit (.bool false)], args := [d1, d2] }
  | _ => none }
def OrderWaitsWrongFalsely : Prop := orderWaitsRow.holds Try.pinned (OpenSpec.ofChange orderWaitsWrong)

/-- 'ostiarylaw17.OrderScript': WHATEVER THE INPUT: true; the input reads as it did. -/
def orderScriptSpec : ChangeSpec := { name := "orderScript", fn := fun _ => fun
  | [d1, d2] => { results := [.lit (.bool true)], args := [d1, d2] }
  | _ => none }
def orderScriptRow : OpenClaim := { program := "yteehicennefcbaa", sum := "aba6a973d7a418cff049a54aa3338a641638cead50228bbad403bb6464944b0f", func := "ostiary/ostiarylaw17.OrderScript", spec := "orderScript", apart := false }
def OrderScriptSaid : Prop := orderScriptRow.holds Try.pinned (OpenSpec.ofChange orderScriptSpec)

/-- ITS FALSE NEIGHBOUR: 'it returns false'. Refute it at one input. -/
def orderScriptWrong : ChangeSpec := { name := "orderScript", fn := fun _ => fun
  | [d1, d2] => { results := [.lit (.bool false)], args := [d1, d2] }
  | _ => none }
def OrderScriptWrongFalsely : Prop := orderScriptRow.holds Try.pinned (OpenSpec.ofChange orderScriptWrong)

/-- 'ostiarylaw17.OrderNone': WHATEVER THE INPUT: true; the input reads as it did. -/
def orderNoneSpec : ChangeSpec := { name := "orderNone", fn := fun _ => fun
  | [d1, d2] => { results := [.lit (.bool true)], args := [d1, d2] }
  | _ => none }
def orderNoneRow : OpenClaim := { program := "yteehicennefcbaa", sum := "aba6a973d7a418cff049a54aa3338a641638cead50228bbad403bb6464944b0f", func := "ostiary/ostiarylaw17.OrderNone", spec := "orderNone", apart := false }
def OrderNoneSaid : Prop := orderNoneRow.holds Try.pinned (OpenSpec.ofChange orderNoneSpec)

/-- ITS FALSE NEIGHBOUR: 'it returns false'. Refute it at one input. -/
def orderNoneWrong : ChangeSpec := { name := "orderNone", fn := fun _ => fun
  | [d1, d2] => { results := [.lit (.bool false)], args := [d1, d2] }
  | _ => none }
def OrderNoneWrongFalsely : Prop := orderNoneRow.holds Try.pinned (OpenSpec.ofChange orderNoneWrong)

/-- 'ostiarylaw17.OrderKnown': WHATEVER THE INPUT: true; the input reads as it did. -/
def orderKnownSpec : ChangeSpec := { name := "orderKnown", fn := fun _ => fun
  | [] => { results := [.lit (.bool true)], args := [] }
  | _ => none }
def orderKnownRow : OpenClaim := { program := "yteehicennefcbaa", sum := "aba6a973d7a418cff049a54aa3338a641638cead50228bbad403bb6464944b0f", func := "ostiary/ostiarylaw17.OrderKnown", spec := "orderKnown", apart := false }
def OrderKnownSaid : Prop := orderKnownRow.holds Try.pinned (OpenSpec.ofChange orderKnownSpec)

/-- ITS FALSE NEIGHBOUR: 'it returns false'. Refute it at one input. -/
def orderKnownWrong : ChangeSpec := { name := "orderKnown", fn := fun _ => fun
  | [] => { results := [.lit (.bool false)], args := [] }
  | _ => none }
def OrderKnownWrongFalsely : Prop := orderKnownRow.holds Try.pinned (OpenSpec.ofChange orderKnownWrong)

/-- 'ostiarylaw17.OrderAll': WHATEVER THE INPUT: true; the input reads as it did. -/
def orderAllSpec : ChangeSpec := { name := "orderAll", fn := fun _ => fun
  | [d1, d2] => { results := [.lit (.bool true)], args := [d1, d2] }
  | _ => none }
def orderAllRow : OpenClaim := { program := "yteehicennefcbaa", sum := "aba6a973d7a418cff049a54aa3338a641638cead50228bbad403bb6464944b0f", func := "ostiary/ostiarylaw17.OrderAll", spec := "orderAll", apart := false }
def OrderAllSaid : Prop := orderAllRow.holds Try.pinned (OpenSpec.ofChange orderAllSpec)

/-- ITS FALSE NEIGHBOUR: 'it returns false'. Refute it at one input. -/
def orderAllWrong : ChangeSpec := { name := "orderAll", fn := fun _ => fun
  | [d1, d2] => { results := [.lit (.bool false)], args := [d1, d2] }
  | _ => none }
def OrderAllWrongFalsely : Prop := orderAllRow.holds Try.pinned (OpenSpec.ofChange orderAllWrong)

/- THE SECOND FORM. 'bulk': how many values and letters a reading holds, each counted each time it is reached (what is shared counts as often as it is met; a slice's spare places count too). A statement '..UptoSaid' is the law's where the arguments, and the package variables that the reading takes, are together of bulk at most 1048576: NARROWER than '..Said'. Prove '..Said' where nothing that the law and all that it calls make is longer than what came in: it says more and counts as full. Else prove '..UptoSaid'. A law counts once. -/
mutual
def uptoBulk {H : Type} : DataW H → Nat
  | .lit (.string bytes) => bytes.length + 1
  | .lit _ => 1
  | .nil => 1
  | .ptr d => uptoBulk d + 1
  | .slice elems spare => uptoBulkAll elems + uptoBulkAll spare + 1
  | .agg parts => uptoBulkAll parts + 1
  | .iface _ d => uptoBulk d + 1
  | .map entries => uptoBulkEntries entries + 1
  | .held _ => 1
def uptoBulkAll {H : Type} : List (DataW H) → Nat
  | [] => 0
  | d :: r => uptoBulk d + uptoBulkAll r
def uptoBulkEntries {H : Type} : List (Lit × DataW H) → Nat
  | [] => 0
  | x :: r => uptoBulkEntry x + uptoBulkEntries r
def uptoBulkEntry {H : Type} : Lit × DataW H → Nat
  | (.string bytes, d) => bytes.length + uptoBulk d + 1
  | (_, d) => uptoBulk d + 1
 end
def uptoSmall : (H : Type) → List (DataW H) → Bool := fun _ ds => decide (uptoBulkAll ds ≤ 1048576)
def OpenSpec.upto (s : _root_.Go.ChangeSpec) : _root_.Go.OpenSpec := { _root_.Go.OpenSpec.ofChange s with cond := some uptoSmall }

/-- 'ostiarylaw17.OrderWaits', WHERE WHAT IT READS IS OF BULK AT MOST 1048576: true; the input reads as it did. -/
def orderWaitsUptoRow : OpenClaim := { program := "yteehicennefcbaa", sum := "aba6a973d7a418cff049a54aa3338a641638cead50228bbad403bb6464944b0f", func := "ostiary/ostiarylaw17.OrderWaits", spec := "orderWaits", apart := false, narrowed := true }
def OrderWaitsUptoSaid : Prop := orderWaitsUptoRow.holds Try.pinned (OpenSpec.upto orderWaitsSpec)

/-- 'ostiarylaw17.OrderScript', WHERE WHAT IT READS IS OF BULK AT MOST 1048576: true; the input reads as it did. -/
def orderScriptUptoRow : OpenClaim := { program := "yteehicennefcbaa", sum := "aba6a973d7a418cff049a54aa3338a641638cead50228bbad403bb6464944b0f", func := "ostiary/ostiarylaw17.OrderScript", spec := "orderScript", apart := false, narrowed := true }
def OrderScriptUptoSaid : Prop := orderScriptUptoRow.holds Try.pinned (OpenSpec.upto orderScriptSpec)

/-- 'ostiarylaw17.OrderNone', WHERE WHAT IT READS IS OF BULK AT MOST 1048576: true; the input reads as it did. -/
def orderNoneUptoRow : OpenClaim := { program := "yteehicennefcbaa", sum := "aba6a973d7a418cff049a54aa3338a641638cead50228bbad403bb6464944b0f", func := "ostiary/ostiarylaw17.OrderNone", spec := "orderNone", apart := false, narrowed := true }
def OrderNoneUptoSaid : Prop := orderNoneUptoRow.holds Try.pinned (OpenSpec.upto orderNoneSpec)

/-- 'ostiarylaw17.OrderKnown', WHERE WHAT IT READS IS OF BULK AT MOST 1048576: true; the input reads as it did. -/
def orderKnownUptoRow : OpenClaim := { program := "yteehicennefcbaa", sum := "aba6a973d7a418cff049a54aa3338a641638cead50228bbad403bb6464944b0f", func := "ostiary/ostiarylaw17.OrderKnown", spec := "orderKnown", apart := false, narrowed := true }
def OrderKnownUptoSaid : Prop := orderKnownUptoRow.holds Try.pinned (OpenSpec.upto orderKnownSpec)

/-- 'ostiarylaw17.OrderAll', WHERE WHAT IT READS IS OF BULK AT MOST 1048576: true; the input reads as it did. -/
def orderAllUptoRow : OpenClaim := { program := "yteehicennefcbaa", sum := "aba6a973d7a418cff049a54aa3338a641638cead50228bbad403bb6464944b0f", func := "ostiary/ostiarylaw17.OrderAll", spec := "orderAll", apart := false, narrowed := true }
def OrderAllUptoSaid : Prop := orderAllUptoRow.holds Try.pinned (OpenSpec.upto orderAllSpec)

end Rows
end Go.Proofs.Yteehicennefcbaa

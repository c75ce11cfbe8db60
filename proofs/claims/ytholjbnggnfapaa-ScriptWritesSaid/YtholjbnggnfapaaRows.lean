/-
  No cell of these rows narrows 'for every input' (looked for: loops, veiled, ifaces, maps, wideKeys, modest, calm, conditions, laid).
  DERIVED. THE GIVEN ROWS OF THIS SEAT. 6 by the template 'for every input the law returns true; each argument reads behind the call as it read before'; 0 by the template 'total and deterministic' (their statements: YtholjbnggnfapaaTotals.lean).
  GIVEN WITH THE SEED: the statements are not yours to turn. If you find one false, say at which input.
  Laid BY PROGRAM, IN A SANDBOX (cutbox-rows.mjs): the forced cells as the released guide's own fill.sh prints them over the translation dcedd60e11fd0ae1… (all of the seat's roots in one cut). By AI agents, Wed Nov 11 2026. No macro, syntax, notation, axiom, sorry.
-/
import Derived.Test.YtholjbnggnfapaaChecked
import GoSem.Claim
import GoSem.ClaimJoined
import GoSem.ClaimMapViews
import Derived.JoinedTies
import Derived.KernelRfl
namespace Go.Proofs.Ytholjbnggnfapaa
/- THE CELL 'sum', in the pinned program and in every row, IS THE sha256 OF THE DUMP (.gsa) THAT YtholjbnggnfapaaProg.lean LOADS. Nothing in Lean hashes anything: it is a label: what it is worth is what the hold of that sum in a sandbox is worth. -/
noncomputable def Try.pinned : Pinned := { name := "ytholjbnggnfapaa", sum := "dcedd60e11fd0ae1ea1510725c47c7954d226a0011b2893888b236ff6f27606a", checked := Try.checked }
namespace Rows
def none {H : Type} : Left H := { results := [], args := [] }

/-- 'ostiarylaw29.ScriptReads': WHATEVER THE INPUT: true; the input reads as it did. -/
def scriptReadsSpec : ChangeSpec := { name := "scriptReads", fn := fun _ => fun
  | [d] => { results := [.lit (.bool true)], args := [d] }
  | _ => none }
def scriptReadsRow : OpenClaim := { program := "ytholjbnggnfapaa", sum := "dcedd60e11fd0ae1ea1510725c47c7954d226a0011b2893888b236ff6f27606a", func := "ostiary/ostiarylaw29.ScriptReads", spec := "scriptReads", unfollowed := true, recurses := true, apart := false }
def ScriptReadsSaid : Prop := scriptReadsRow.holds Try.pinned (OpenSpec.ofChange scriptReadsSpec)

/-- ITS FALSE NEIGHBOUR: 'it returns false'. Refute it at one input. -/
def scriptReadsWrong : ChangeSpec := { name := "scriptReads", fn := fun _ => fun
  | [d] => { results := [.lit (.bool false)], args := [d] }
  | _ => none }
def ScriptReadsWrongFalsely : Prop := scriptReadsRow.holds Try.pinned (OpenSpec.ofChange scriptReadsWrong)

/-- 'ostiarylaw29.ScriptMany': WHATEVER THE INPUT: true; the input reads as it did. -/
def scriptManySpec : ChangeSpec := { name := "scriptMany", fn := fun _ => fun
  | [d] => { results := [.lit (.bool true)], args := [d] }
  | _ => none }
def scriptManyRow : OpenClaim := { program := "ytholjbnggnfapaa", sum := "dcedd60e11fd0ae1ea1510725c47c7954d226a0011b2893888b236ff6f27606a", func := "ostiary/ostiarylaw29.ScriptMany", spec := "scriptMany", unfollowed := true, recurses := true, apart := false }
def ScriptManySaid : Prop := scriptManyRow.holds Try.pinned (OpenSpec.ofChange scriptManySpec)

/-- ITS FALSE NEIGHBOUR: 'it returns false'. Refute it at one input. -/
def scriptManyWrong : ChangeSpec := { name := "scriptMany", fn := fun _ => fun
  | [d] => { results := [.lit (.bool false)], args := [d] }
  | _ => none }
def ScriptManyWrongFalsely : Prop := scriptManyRow.holds Try.pinned (OpenSpec.ofChange scriptManyWrong)

/-- 'ostiarylaw29.ScriptBehind': WHATEVER THE INPUT: true; the input reads as it did. -/
def scriptBehindSpec : ChangeSpec := { name := "scriptBehind", fn := fun _ => fun
  | [d1, d2, d3] => { results := [.lit (.bool true)], args := [d1, d2, d3] }
  | _ => none }
def scriptBehindRow : OpenClaim := { program := "ytholjbnggnfapaa", sum := "dcedd60e11fd0ae1ea1510725c47c7954d226a0011b2893888b236ff6f27606a", func := "ostiary/ostiarylaw29.ScriptBehind", spec := "scriptBehind", unfollowed := true, recurses := true, apart := false }
def ScriptBehindSaid : Prop := scriptBehindRow.holds Try.pinned (OpenSpec.ofChange scriptBehindSpec)

/-- ITS FALSE NEIGHBOUR: 'it returns false'. Refute it at one input. -/
def scriptBehindWrong : ChangeSpec := { name := "scriptBehind", fn := fun _ => fun
  | [d1, d2, d3] => { results := [.lit (.bool false)], args := [d1, d2, d3] }
  | _ => none }
def ScriptBehindWrongFalsely : Prop := scriptBehindRow.holds Try.pinned (OpenSpec.ofChange scriptBehindWrong)

/-- 'ostiarylaw29.ScriptKnown': WHATEVER THE INPUT: true; the input reads as it did. -/
def scriptKnownSpec : ChangeSpec := { name := "scriptKnown", fn := fun _ => fun
  | [] => { results := [.lit (.bool true)], args := [] }
  | _ => none }
def scriptKnownRow : OpenClaim := { program := "ytholjbnggnfapaa", sum := "dcedd60e11fd0ae1ea1510725c47c7954d226a0011b2893888b236ff6f27606a", func := "ostiary/ostiarylaw29.ScriptKnown", spec := "scriptKnown", unfollowed := true, recurses := true, apart := false }
def ScriptKnownSaid : Prop := scriptKnownRow.holds Try.pinned (OpenSpec.ofChange scriptKnownSpec)

/-- ITS FALSE NEIGHBOUR: 'it returns false'. Refute it at one input. -/
def scriptKnownWrong : ChangeSpec := { name := "scriptKnown", fn := fun _ => fun
  | [] => { results := [.lit (.bool false)], args := [] }
  | _ => none }
def ScriptKnownWrongFalsely : Prop := scriptKnownRow.holds Try.pinned (OpenSpec.ofChange scriptKnownWrong)

/-- 'ostiarylaw29.ScriptWrites': WHATEVER THE INPUT: true; the input reads as it did. -/
def scriptWritesSpec : ChangeSpec := { name := "scriptWrites", fn := fun _ => fun
  | [d] => { results := [.lit (.bool true)], args := [d] }
  | _ => none }
def scriptWritesRow : OpenClaim := { program := "ytholjbnggnfapaa", sum := "dcedd60e11fd0ae1ea1510725c47c7954d226a0011b2893888b236ff6f27606a", func := "ostiary/ostiarylaw29.ScriptWrites", spec := "scriptWrites", unfollowed := true, recurses := true, apart := false }
def ScriptWritesSaid : Prop := scriptWritesRow.holds Try.pinned (OpenSpec.ofChange scriptWritesSpec)

/-- ITS FALSE NEIGHBOUR: 'it returns false'. Refute it at one input. -/
def scriptWritesWrong : ChangeSpec := { name := "scriptWrites", fn := fun _ => fun
  | [d] => { results := [.lit (.bool false)], args := [d] }
  | _ => none }
def ScriptWritesWrongFalsely : Prop := scriptWritesRow.holds Try.pinned (OpenSpec.ofChange scriptWritesWrong)

/-- 'ostiarylaw29.ScriptBack': WHATEVER THE INPUT: true; the input reads as it did. -/
def scriptBackSpec : ChangeSpec := { name := "scriptBack", fn := fun _ => fun
  | [d1, d2] => { results := [.lit (.bool true)], args := [d1, d2] }
  | _ => none }
def scriptBackRow : OpenClaim := { program := "ytholjbnggnfapaa", sum := "dcedd60e11fd0ae1ea1510725c47c7954d226a0011b2893888b236ff6f27606a", func := "ostiary/ostiarylaw29.ScriptBack", spec := "scriptBack", unfollowed := true, recurses := true, apart := false }
def ScriptBackSaid : Prop := scriptBackRow.holds Try.pinned (OpenSpec.ofChange scriptBackSpec)

/-- ITS FALSE NEIGHBOUR: 'it returns false'. Refute it at one input. -/
def scriptBackWrong : ChangeSpec := { name := "scriptBack", fn := fun _ => fun
  | [d1, d2] => { results := [.lit (.bool false)], args := [d1, d2] }
  | _ => none }
def ScriptBackWrongFalsely : Prop := scriptBackRow.holds Try.pinned (OpenSpec.ofChange scriptBackWrong)

/- THE SECOND FORM. 'bulk': how many values and letters a reading holds, each counted each time it is reached (what is shared counts as often as it is met; a slice's spare places count too). A statement '..UptoSaid' is the law's where the arguments, and the package variables that the reading takes, are together of bulk at most 1048576: NARROWER than '..Said'. Prove '..Said' where nothing that the law and all that it calls make is longer than what came in: it says more and counts as full. Else prove '..UptoSaid'. A law counts once. -/
mutual
def uptoBulk {H : Type} : DataW H → Nat
  | .lit (.string bytes) => bytes.length + 1
  | .lit _ => 1
  | .nil => 1
  | .ptr d => uptoBulk d + 1
  | .slice elems spare => uptoBulkAll elems + uptoBulkAll spare + 1
  | .agg parts => uptoBulkAll parts + 1
  | .iface _ d => uptoBulk d + 1
  | .map entries => uptoBulkEntries entries + 1
  | .held _ => 1
def uptoBulkAll {H : Type} : List (DataW H) → Nat
  | [] => 0
  | d :: r => uptoBulk d + uptoBulkAll r
def uptoBulkEntries {H : Type} : List (Lit × DataW H) → Nat
  | [] => 0
  | x :: r => uptoBulkEntry x + uptoBulkEntries r
def uptoBulkEntry {H : Type} : Lit × DataW H → Nat
  | (.string bytes, d) => bytes.length + uptoBulk d + 1
  | (_, d) => uptoBulk d + 1
 end
def uptoSmall : (H : Type) → List (DataW H) → Bool := fun _ ds => decide (uptoBulkAll ds ≤ 1048576)
def OpenSpec.upto (s : _root_.Go.ChangeSpec) : _root_.Go.OpenSpec := { _root_.Go.OpenSpec.ofChange s with cond := some uptoSmall }

/-- 'ostiarylaw29.ScriptReads', WHERE WHAT IT READS IS OF BULK AT MOST 1048576: true; the input reads as it did. -/
def scriptReadsUptoRow : OpenClaim := { program := "ytholjbnggnfapaa", sum := "dcedd60e11fd0ae1ea1510725c47c7954d226a0011b2893888b236ff6f27606a", func := "ostiary/ostiarylaw29.ScriptReads", spec := "scriptReads", unfollowed := true, recurses := true, apart := false, narrowed := true }
def ScriptReadsUptoSaid : Prop := scriptReadsUptoRow.holds Try.pinned (OpenSpec.upto scriptReadsSpec)

/-- 'ostiarylaw29.ScriptMany', WHERE WHAT IT READS IS OF BULK AT MOST 1048576: true; the input reads as it did. -/
def scriptManyUptoRow : OpenClaim := { program := "ytholjbnggnfapaa", sum := "dcedd60e11fd0ae1ea1510725c47c7954d226a0011b2893888b236ff6f27606a", func := "ostiary/ostiarylaw29.ScriptMany", spec := "scriptMany", unfollowed := true, recurses := true, apart := false, narrowed := true }
def ScriptManyUptoSaid : Prop := scriptManyUptoRow.holds Try.pinned (OpenSpec.upto scriptManySpec)

/-- 'ostiarylaw29.ScriptBehind', WHERE WHAT IT READS IS OF BULK AT MOST 1048576: true; the input reads as it did. -/
def scriptBehindUptoRow : OpenClaim := { program := "ytholjbnggnfapaa", sum := "dcedd60e11fd0ae1ea1510725c47c7954d226a0011b2893888b236ff6f27606a", func := "ostiary/ostiarylaw29.ScriptBehind", spec := "scriptBehind", unfollowed := true, recurses := true, apart := false, narrowed := true }
def ScriptBehindUptoSaid : Prop := scriptBehindUptoRow.holds Try.pinned (OpenSpec.upto scriptBehindSpec)

/-- 'ostiarylaw29.ScriptKnown', WHERE WHAT IT READS IS OF BULK AT MOST 1048576: true; the input reads as it did. -/
def scriptKnownUptoRow : OpenClaim := { program := "ytholjbnggnfapaa", sum := "dcedd60e11fd0ae1ea1510725c47c7954d226a0011b2893888b236ff6f27606a", func := "ostiary/ostiarylaw29.ScriptKnown", spec := "scriptKnown", unfollowed := true, recurses := true, apart := false, narrowed := true }
def ScriptKnownUptoSaid : Prop := scriptKnownUptoRow.holds Try.pinned (OpenSpec.upto scriptKnownSpec)

/-- 'ostiarylaw29.ScriptWrites', WHERE WHAT IT READS IS OF BULK AT MOST 1048576: true; the input reads as it did. -/
def scriptWritesUptoRow : OpenClaim := { program := "ytholjbnggnfapaa", sum := "dcedd60e11fd0ae1ea1510725c47c7954d226a0011b2893888b236ff6f27606a", func := "ostiary/ostiarylaw29.ScriptWrites", spec := "scriptWrites", unfollowed := true, recurses := true, apart := false, narrowed := true }
def ScriptWritesUptoSaid : Prop := scriptWritesUptoRow.holds Try.pinned (OpenSpec.upto scriptWritesSpec)

/-- 'ostiarylaw29.ScriptBack', WHERE WHAT IT READS IS OF BULK AT MOST 1048576: true; the input reads as it did. -/
def scriptBackUptoRow : OpenClaim := { program := "ytholjbnggnfapaa", sum := "dcedd60e11fd0ae1ea1510725c47c7954d226a0011b2893888b236ff6f27606a", func := "ostiary/ostiarylaw29.ScriptBack", spec := "scriptBack", unfollowed := true, recurses := true, apart := false, narrowed := true }
def ScriptBackUptoSaid : Prop := scriptBackUptoRow.holds Try.pinned (OpenSpec.upto scriptBackSpec)

end Rows
end Go.Proofs.Ytholjbnggnfapaa

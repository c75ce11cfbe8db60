/-
  No cell of these rows narrows 'for every input' (looked for: loops, veiled, ifaces, maps, wideKeys, modest, calm, conditions, laid).
  DERIVED. THE GIVEN ROWS OF THIS SEAT. 5 by the template 'for every input the law returns true; each argument reads behind the call as it read before'; 0 by the template 'total and deterministic' (their statements: YtkogagpahidenaaTotals.lean).
  GIVEN WITH THE SEED: the statements are not yours to turn. If you find one false, say at which input.
  Laid BY PROGRAM, IN A SANDBOX (cutbox-rows.mjs): the forced cells as the released guide's own fill.sh prints them over the translation 9fdde44beef3c420… (all of the seat's roots in one cut). By AI agents, Wed Nov 11 2026. No macro, syntax, notation, axiom, sorry.
-/
import Derived.Test.YtkogagpahidenaaChecked
import GoSem.Claim
import GoSem.ClaimJoined
import GoSem.ClaimMapViews
import Derived.JoinedTies
import Derived.KernelRfl
namespace Go.Proofs.Ytkogagpahidenaa
/- THE CELL 'sum', in the pinned program and in every row, IS THE sha256 OF THE DUMP (.gsa) THAT YtkogagpahidenaaProg.lean LOADS. Nothing in Lean hashes anything: it is a label: what it is worth is what the hold of that sum in a sandbox is worth. -/
noncomputable def Try.pinned : Pinned := { name := "ytkogagpahidenaa", sum := "9fdde44beef3c42089f8072f01bde411d6f5fd89dd23b52d2f69a0b6c8d5f6a2", checked := Try.checked }
namespace Rows
def none {H : Type} : Left H := { results := [], args := [] }

/-- 'ostiarylaw21.DrrFair': WHATEVER THE INPUT: true; the input reads as it did. -/
def drrFairSpec : ChangeSpec := { name := "drrFair", fn := fun _ => fun
  | [d1, d2, d3, d4, d5, d6] => { results := [.lit (.bool true)], args := [d1, d2, d3, d4, d5, d6] }
  | _ => none }
def drrFairRow : OpenClaim := { program := "ytkogagpahidenaa", sum := "9fdde44beef3c42089f8072f01bde411d6f5fd89dd23b52d2f69a0b6c8d5f6a2", func := "ostiary/ostiarylaw21.DrrFair", spec := "drrFair", apart := false }
def DrrFairSaid : Prop := drrFairRow.holds Try.pinned (OpenSpec.ofChange drrFairSpec)

/-- ITS FALSE NEIGHBOUR: 'it returns false'. Refute it at one input. -/
def drrFairWrong : ChangeSpec := { name := "drrFair", fn := fun _ => fun
  | [d1, d2, d3, d4, d5, d6] => { results := [.lit (.bool false)], args := [d1, d2, d3, d4, d5, d6] }
  | _ => none }
def DrrFairWrongFalsely : Prop := drrFairRow.holds Try.pinned (OpenSpec.ofChange drrFairWrong)

/-- 'ostiarylaw21.DrrServes': WHATEVER THE INPUT: true; the input reads as it did. -/
def drrServesSpec : ChangeSpec := { name := "drrServes", fn := fun _ => fun
  | [d1, d2, d3, d4, d5, d6, d7] => { results := [.lit (.bool true)], args := [d1, d2, d3, d4, d5, d6, d7] }
  | _ => none }
def drrServesRow : OpenClaim := { program := "ytkogagpahidenaa", sum := "9fdde44beef3c42089f8072f01bde411d6f5fd89dd23b52d2f69a0b6c8d5f6a2", func := "ostiary/ostiarylaw21.DrrServes", spec := "drrServes", apart := false }
def DrrServesSaid : Prop := drrServesRow.holds Try.pinned (OpenSpec.ofChange drrServesSpec)

/-- ITS FALSE NEIGHBOUR: 'it returns false'. Refute it at one input. -/
def drrServesWrong : ChangeSpec := { name := "drrServes", fn := fun _ => fun
  | [d1, d2, d3, d4, d5, d6, d7] => { results := [.lit (.bool false)], args := [d1, d2, d3, d4, d5, d6, d7] }
  | _ => none }
def DrrServesWrongFalsely : Prop := drrServesRow.holds Try.pinned (OpenSpec.ofChange drrServesWrong)

/-- 'ostiarylaw21.DrrKnown': WHATEVER THE INPUT: true; the input reads as it did. -/
def drrKnownSpec : ChangeSpec := { name := "drrKnown", fn := fun _ => fun
  | [] => { results := [.lit (.bool true)], args := [] }
  | _ => none }
def drrKnownRow : OpenClaim := { program := "ytkogagpahidenaa", sum := "9fdde44beef3c42089f8072f01bde411d6f5fd89dd23b52d2f69a0b6c8d5f6a2", func := "ostiary/ostiarylaw21.DrrKnown", spec := "drrKnown", apart := false }
def DrrKnownSaid : Prop := drrKnownRow.holds Try.pinned (OpenSpec.ofChange drrKnownSpec)

/-- ITS FALSE NEIGHBOUR: 'it returns false'. Refute it at one input. -/
def drrKnownWrong : ChangeSpec := { name := "drrKnown", fn := fun _ => fun
  | [] => { results := [.lit (.bool false)], args := [] }
  | _ => none }
def DrrKnownWrongFalsely : Prop := drrKnownRow.holds Try.pinned (OpenSpec.ofChange drrKnownWrong)

/-- 'ostiarylaw21.DrrScript': WHATEVER THE INPUT: true; the input reads as it did. -/
def drrScriptSpec : ChangeSpec := { name := "drrScript", fn := fun _ => fun
  | [d1, d2, d3, d4, d5, d6] => { results := [.lit (.bool true)], args := [d1, d2, d3, d4, d5, d6] }
  | _ => none }
def drrScriptRow : OpenClaim := { program := "ytkogagpahidenaa", sum := "9fdde44beef3c42089f8072f01bde411d6f5fd89dd23b52d2f69a0b6c8d5f6a2", func := "ostiary/ostiarylaw21.DrrScript", spec := "drrScript", apart := false }
def DrrScriptSaid : Prop := drrScriptRow.holds Try.pinned (OpenSpec.ofChange drrScriptSpec)

/-- ITS FALSE NEIGHBOUR: 'it returns false'. Refute it at one input. -/
def drrScriptWrong : ChangeSpec := { name := "drrScript", fn := fun _ => fun
  | [d1, d2, d3, d4, d5, d6] => { results := [.lit (.bool false)], args := [d1, d2, d3, d4, d5, d6] }
  | _ => none }
def DrrScriptWrongFalsely : Prop := drrScriptRow.holds Try.pinned (OpenSpec.ofChange drrScriptWrong)

/-- 'ostiarylaw21.DrrNone': WHATEVER THE INPUT: true; the input reads as it did. -/
def drrNoneSpec : ChangeSpec := { name := "drrNone", fn := fun _ => fun
  | [d1, d2, d3] => { results := [.lit (.bool true)], args := [d1, d2, d3] }
  | _ => none }
def drrNoneRow : OpenClaim := { program := "ytkogagpahidenaa", sum := "9fdde44beef3c42089f8072f01bde411d6f5fd89dd23b52d2f69a0b6c8d5f6a2", func := "ostiary/ostiarylaw21.DrrNone", spec := "drrNone", apart := false }
def DrrNoneSaid : Prop := drrNoneRow.holds Try.pinned (OpenSpec.ofChange drrNoneSpec)

/-- ITS FALSE NEIGHBOUR: 'it returns false'. Refute it at one input. -/
def drrNoneWrong : ChangeSpec := { name := "drrNone", fn := fun _ => fun
  | [d1, d2, d3] => { results := [.lit (.bool false)], args := [d1, d2, d3] }
  | _ => none }
def DrrNoneWrongFalsely : Prop := drrNoneRow.holds Try.pinned (OpenSpec.ofChange drrNoneWrong)

/- THE SECOND FORM. 'bulk': how many values and letters a reading holds, each counted each time it is reached (what is shared counts as often as it is met; a slice's spare places count too). A statement '..UptoSaid' is the law's where the arguments, and the package variables that the reading takes, are together of bulk at most 1048576: NARROWER than '..Said'. Prove '..Said' where nothing that the law and all that it calls make is longer than what came in: it says more and counts as full. Else prove '..UptoSaid'. A law counts once. -/
mutual
def uptoBulk {H : Type} : DataW H → Nat
  | .lit (.string bytes) => bytes.length + 1
  | .lit _ => 1
  | .nil => 1
  | .ptr d => uptoBulk d + 1
  | .slice elems spare => uptoBulkAll elems + uptoBulkAll spare + 1
  | .agg parts => uptoBulkAll parts + 1
  | .iface _ d => uptoBulk d + 1
  | .map entries => uptoBulkEntries entries + 1
  | .held _ => 1
def uptoBulkAll {H : Type} : List (DataW H) → Nat
  | [] => 0
  | d :: r => uptoBulk d + uptoBulkAll r
def uptoBulkEntries {H : Type} : List (Lit × DataW H) → Nat
  | [] => 0
  | x :: r => uptoBulkEntry x + uptoBulkEntries r
def uptoBulkEntry {H : Type} : Lit × DataW H → Nat
  | (.string bytes, d) => bytes.length + uptoBulk d + 1
  | (_, d) => uptoBulk d + 1
 end
def uptoSmall : (H : Type) → List (DataW H) → Bool := fun _ ds => decide (uptoBulkAll ds ≤ 1048576)
def OpenSpec.upto (s : _root_.Go.ChangeSpec) : _root_.Go.OpenSpec := { _root_.Go.OpenSpec.ofChange s with cond := some uptoSmall }

/-- 'ostiarylaw21.DrrFair', WHERE WHAT IT READS IS OF BULK AT MOST 1048576: true; the input reads as it did. -/
def drrFairUptoRow : OpenClaim := { program := "ytkogagpahidenaa", sum := "9fdde44beef3c42089f8072f01bde411d6f5fd89dd23b52d2f69a0b6c8d5f6a2", func := "ostiary/ostiarylaw21.DrrFair", spec := "drrFair", apart := false, narrowed := true }
def DrrFairUptoSaid : Prop := drrFairUptoRow.holds Try.pinned (OpenSpec.upto drrFairSpec)

/-- 'ostiarylaw21.DrrServes', WHERE WHAT IT READS IS OF BULK AT MOST 1048576: true; the input reads as it did. -/
def drrServesUptoRow : OpenClaim := { program := "ytkogagpahidenaa", sum := "9fdde44beef3c42089f8072f01bde411d6f5fd89dd23b52d2f69a0b6c8d5f6a2", func := "ostiary/ostiarylaw21.DrrServes", spec := "drrServes", apart := false, narrowed := true }
def DrrServesUptoSaid : Prop := drrServesUptoRow.holds Try.pinned (OpenSpec.upto drrServesSpec)

/-- 'ostiarylaw21.DrrKnown', WHERE WHAT IT READS IS OF BULK AT MOST 1048576: true; the input reads as it did. -/
def drrKnownUptoRow : OpenClaim := { program := "ytkogagpahidenaa", sum := "9fdde44beef3c42089f8072f01bde411d6f5fd89dd23b52d2f69a0b6c8d5f6a2", func := "ostiary/ostiarylaw21.DrrKnown", spec := "drrKnown", apart := false, narrowed := true }
def DrrKnownUptoSaid : Prop := drrKnownUptoRow.holds Try.pinned (OpenSpec.upto drrKnownSpec)

/-- 'ostiarylaw21.DrrScript', WHERE WHAT IT READS IS OF BULK AT MOST 1048576: true; the input reads as it did. -/
def drrScriptUptoRow : OpenClaim := { program := "ytkogagpahidenaa", sum := "9fdde44beef3c42089f8072f01bde411d6f5fd89dd23b52d2f69a0b6c8d5f6a2", func := "ostiary/ostiarylaw21.DrrScript", spec := "drrScript", apart := false, narrowed := true }
def DrrScriptUptoSaid : Prop := drrScriptUptoRow.holds Try.pinned (OpenSpec.upto drrScriptSpec)

/-- 'ostiarylaw21.DrrNone', WHERE WHAT IT READS IS OF BULK AT MOST 1048576: true; the input reads as it did. -/
def drrNoneUptoRow : OpenClaim := { program := "ytkogagpahidenaa", sum := "9fdde44beef3c42089f8072f01bde411d6f5fd89dd23b52d2f69a0b6c8d5f6a2", func := "ostiary/ostiarylaw21.DrrNone", spec := "drrNone", apart := false, narrowed := true }
def DrrNoneUptoSaid : Prop := drrNoneUptoRow.holds Try.pinned (OpenSpec.upto drrNoneSpec)

end Rows
end Go.Proofs.Ytkogagpahidenaa

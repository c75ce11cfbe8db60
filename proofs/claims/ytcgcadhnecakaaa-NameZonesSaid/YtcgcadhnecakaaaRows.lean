/-
  No cell of these rows narrows 'for every input' (looked for: loops, veiled, ifaces, maps, wideKeys, modest, calm, conditions, laid).
  DERIVED. THE GIVEN ROWS OF THIS SEAT. 6 by the template 'for every input the law returns true; each argument reads behind the call as it read before'; 0 by the template 'total and deterministic' (their statements: YtcgcadhnecakaaaTotals.lean).
  GIVEN WITH THE SEED: the statements are not yours to turn. If you find one false, say at which input.
  Laid BY PROGRAM, IN A SANDBOX (cutbox-rows.mjs): the forced cells as the released guide's own fill.sh prints them over the translation a0ecb1e09628ad56… (all of the seat's roots in one cut). By AI agents, Wed Nov 11 2026. No macro, syntax, notation, axiom, sorry.
-/
import Derived.Test.YtcgcadhnecakaaaChecked
import GoSem.Claim
import GoSem.ClaimJoined
import GoSem.ClaimMapViews
import Derived.JoinedTies
import Derived.KernelRfl
namespace Go.Proofs.Ytcgcadhnecakaaa
/- THE CELL 'sum', in the pinned program and in every row, IS THE sha256 OF THE DUMP (.gsa) THAT YtcgcadhnecakaaaProg.lean LOADS. Nothing in Lean hashes anything: it is a label: what it is worth is what the hold of that sum in a sandbox is worth. -/
noncomputable def Try.pinned : Pinned := { name := "ytcgcadhnecakaaa", sum := "a0ecb1e09628ad5620dc2be84f31bd06ec690653471cdcccb5ff2104a21e0308", checked := Try.checked }
namespace Rows
def none {H : Type} : Left H := { results := [], args := [] }

/-- 'ostiarylaw04.NameChecks': WHATEVER THE INPUT: true; the input reads as it did. -/
def nameChecksSpec : ChangeSpec := { name := "nameChecks", fn := fun _ => fun
  | [d1, d2] => { results := [.lit (.bool true)], args := [d1, d2] }
  | _ => none }
def nameChecksRow : OpenClaim := { program := "ytcgcadhnecakaaa", sum := "a0ecb1e09628ad5620dc2be84f31bd06ec690653471cdcccb5ff2104a21e0308", func := "ostiary/ostiarylaw04.NameChecks", spec := "nameChecks", inPlace := ["internal/abi.NoEscape"], unfollowed := true, recurses := true, apart := false }
def NameChecksSaid : Prop := nameChecksRow.holds Try.pinned (OpenSpec.ofChange nameChecksSpec)

/-- ITS FALSE NEIGHBOUR: 'it returns false'. Refute it at one input. -/
def nameChecksWrong : ChangeSpec := { name := "nameChecks", fn := fun _ => fun
  | [d1, d2] => { results := [.lit (.bool false)], args := [d1, d2] }
  | _ => none }
def NameChecksWrongFalsely : Prop := nameChecksRow.holds Try.pinned (OpenSpec.ofChange nameChecksWrong)

/-- 'ostiarylaw04.NameZones': WHATEVER THE INPUT: true; the input reads as it did. -/
def nameZonesSpec : ChangeSpec := { name := "nameZones", fn := fun _ => fun
  | [d1, d2, d3] => { results := [.lit (.bool true)], args := [d1, d2, d3] }
  | _ => none }
def nameZonesRow : OpenClaim := { program := "ytcgcadhnecakaaa", sum := "a0ecb1e09628ad5620dc2be84f31bd06ec690653471cdcccb5ff2104a21e0308", func := "ostiary/ostiarylaw04.NameZones", spec := "nameZones", inPlace := ["internal/abi.NoEscape"], unfollowed := true, recurses := true, apart := false }
def NameZonesSaid : Prop := nameZonesRow.holds Try.pinned (OpenSpec.ofChange nameZonesSpec)

/-- ITS FALSE NEIGHBOUR: 'it returns false'. Refute it at one input. -/
def nameZonesWrong : ChangeSpec := { name := "nameZones", fn := fun _ => fun
  | [d1, d2, d3] => { results := [.lit (.bool false)], args := [d1, d2, d3] }
  | _ => none }
def NameZonesWrongFalsely : Prop := nameZonesRow.holds Try.pinned (OpenSpec.ofChange nameZonesWrong)

/-- 'ostiarylaw04.NameCompares': WHATEVER THE INPUT: true; the input reads as it did. -/
def nameComparesSpec : ChangeSpec := { name := "nameCompares", fn := fun _ => fun
  | [d1, d2] => { results := [.lit (.bool true)], args := [d1, d2] }
  | _ => none }
def nameComparesRow : OpenClaim := { program := "ytcgcadhnecakaaa", sum := "a0ecb1e09628ad5620dc2be84f31bd06ec690653471cdcccb5ff2104a21e0308", func := "ostiary/ostiarylaw04.NameCompares", spec := "nameCompares", inPlace := ["internal/bytealg.abigen_runtime_cmpstring", "internal/abi.NoEscape"], unfollowed := true, recurses := true, apart := false }
def NameComparesSaid : Prop := nameComparesRow.holds Try.pinned (OpenSpec.ofChange nameComparesSpec)

/-- ITS FALSE NEIGHBOUR: 'it returns false'. Refute it at one input. -/
def nameComparesWrong : ChangeSpec := { name := "nameCompares", fn := fun _ => fun
  | [d1, d2] => { results := [.lit (.bool false)], args := [d1, d2] }
  | _ => none }
def NameComparesWrongFalsely : Prop := nameComparesRow.holds Try.pinned (OpenSpec.ofChange nameComparesWrong)

/-- 'ostiarylaw04.NameOrders': WHATEVER THE INPUT: true; the input reads as it did. -/
def nameOrdersSpec : ChangeSpec := { name := "nameOrders", fn := fun _ => fun
  | [d1, d2, d3] => { results := [.lit (.bool true)], args := [d1, d2, d3] }
  | _ => none }
def nameOrdersRow : OpenClaim := { program := "ytcgcadhnecakaaa", sum := "a0ecb1e09628ad5620dc2be84f31bd06ec690653471cdcccb5ff2104a21e0308", func := "ostiary/ostiarylaw04.NameOrders", spec := "nameOrders", inPlace := ["internal/abi.NoEscape", "internal/bytealg.abigen_runtime_cmpstring"], unfollowed := true, recurses := true, apart := false }
def NameOrdersSaid : Prop := nameOrdersRow.holds Try.pinned (OpenSpec.ofChange nameOrdersSpec)

/-- ITS FALSE NEIGHBOUR: 'it returns false'. Refute it at one input. -/
def nameOrdersWrong : ChangeSpec := { name := "nameOrders", fn := fun _ => fun
  | [d1, d2, d3] => { results := [.lit (.bool false)], args := [d1, d2, d3] }
  | _ => none }
def NameOrdersWrongFalsely : Prop := nameOrdersRow.holds Try.pinned (OpenSpec.ofChange nameOrdersWrong)

/-- 'ostiarylaw04.NameBack': WHATEVER THE INPUT: true; the input reads as it did. -/
def nameBackSpec : ChangeSpec := { name := "nameBack", fn := fun _ => fun
  | [d1, d2] => { results := [.lit (.bool true)], args := [d1, d2] }
  | _ => none }
def nameBackRow : OpenClaim := { program := "ytcgcadhnecakaaa", sum := "a0ecb1e09628ad5620dc2be84f31bd06ec690653471cdcccb5ff2104a21e0308", func := "ostiary/ostiarylaw04.NameBack", spec := "nameBack", inPlace := ["internal/abi.NoEscape"], unfollowed := true, recurses := true, apart := false }
def NameBackSaid : Prop := nameBackRow.holds Try.pinned (OpenSpec.ofChange nameBackSpec)

/-- ITS FALSE NEIGHBOUR: 'it returns false'. Refute it at one input. -/
def nameBackWrong : ChangeSpec := { name := "nameBack", fn := fun _ => fun
  | [d1, d2] => { results := [.lit (.bool false)], args := [d1, d2] }
  | _ => none }
def NameBackWrongFalsely : Prop := nameBackRow.holds Try.pinned (OpenSpec.ofChange nameBackWrong)

/-- 'ostiarylaw04.NameKnown': WHATEVER THE INPUT: true; the input reads as it did. -/
def nameKnownSpec : ChangeSpec := { name := "nameKnown", fn := fun _ => fun
  | [] => { results := [.lit (.bool true)], args := [] }
  | _ => none }
def nameKnownRow : OpenClaim := { program := "ytcgcadhnecakaaa", sum := "a0ecb1e09628ad5620dc2be84f31bd06ec690653471cdcccb5ff2104a21e0308", func := "ostiary/ostiarylaw04.NameKnown", spec := "nameKnown", inPlace := ["internal/abi.NoEscape", "internal/bytealg.abigen_runtime_cmpstring"], unfollowed := true, recurses := true, apart := false }
def NameKnownSaid : Prop := nameKnownRow.holds Try.pinned (OpenSpec.ofChange nameKnownSpec)

/-- ITS FALSE NEIGHBOUR: 'it returns false'. Refute it at one input. -/
def nameKnownWrong : ChangeSpec := { name := "nameKnown", fn := fun _ => fun
  | [] => { results := [.lit (.bool false)], args := [] }
  | _ => none }
def NameKnownWrongFalsely : Prop := nameKnownRow.holds Try.pinned (OpenSpec.ofChange nameKnownWrong)

/- THE SECOND FORM. 'bulk': how many values and letters a reading holds, each counted each time it is reached (what is shared counts as often as it is met; a slice's spare places count too). A statement '..UptoSaid' is the law's where the arguments, and the package variables that the reading takes, are together of bulk at most 1048576: NARROWER than '..Said'. Prove '..Said' where nothing that the law and all that it calls make is longer than what came in: it says more and counts as full. Else prove '..UptoSaid'. A law counts once. -/
mutual
def uptoBulk {H : Type} : DataW H → Nat
  | .lit (.string bytes) => bytes.length + 1
  | .lit _ => 1
  | .nil => 1
  | .ptr d => uptoBulk d + 1
  | .slice elems spare => uptoBulkAll elems + uptoBulkAll spare + 1
  | .agg parts => uptoBulkAll parts + 1
  | .iface _ d => uptoBulk d + 1
  | .map entries => uptoBulkEntries entries + 1
  | .held _ => 1
def uptoBulkAll {H : Type} : List (DataW H) → Nat
  | [] => 0
  | d :: r => uptoBulk d + uptoBulkAll r
def uptoBulkEntries {H : Type} : List (Lit × DataW H) → Nat
  | [] => 0
  | x :: r => uptoBulkEntry x + uptoBulkEntries r
def uptoBulkEntry {H : Type} : Lit × DataW H → Nat
  | (.string bytes, d) => bytes.length + uptoBulk d + 1
  | (_, d) => uptoBulk d + 1
 end
def uptoSmall : (H : Type) → List (DataW H) → Bool := fun _ ds => decide (uptoBulkAll ds ≤ 1048576)
def OpenSpec.upto (s : _root_.Go.ChangeSpec) : _root_.Go.OpenSpec := { _root_.Go.OpenSpec.ofChange s with cond := some uptoSmall }

/-- 'ostiarylaw04.NameChecks', WHERE WHAT IT READS IS OF BULK AT MOST 1048576: true; the input reads as it did. -/
def nameChecksUptoRow : OpenClaim := { program := "ytcgcadhnecakaaa", sum := "a0ecb1e09628ad5620dc2be84f31bd06ec690653471cdcccb5ff2104a21e0308", func := "ostiary/ostiarylaw04.NameChecks", spec := "nameChecks", inPlace := ["internal/abi.NoEscape"], unfollowed := true, recurses := true, apart := false, narrowed := true }
def NameChecksUptoSaid : Prop := nameChecksUptoRow.holds Try.pinned (OpenSpec.upto nameChecksSpec)

/-- 'ostiarylaw04.NameZones', WHERE WHAT IT READS IS OF BULK AT MOST 1048576: true; the input reads as it did. -/
def nameZonesUptoRow : OpenClaim := { program := "ytcgcadhnecakaaa", sum := "a0ecb1e09628ad5620dc2be84f31bd06ec690653471cdcccb5ff2104a21e0308", func := "ostiary/ostiarylaw04.NameZones", spec := "nameZones", inPlace := ["internal/abi.NoEscape"], unfollowed := true, recurses := true, apart := false, narrowed := true }
def NameZonesUptoSaid : Prop := nameZonesUptoRow.holds Try.pinned (OpenSpec.upto nameZonesSpec)

/-- 'ostiarylaw04.NameCompares', WHERE WHAT IT READS IS OF BULK AT MOST 1048576: true; the input reads as it did. -/
def nameComparesUptoRow : OpenClaim := { program := "ytcgcadhnecakaaa", sum := "a0ecb1e09628ad5620dc2be84f31bd06ec690653471cdcccb5ff2104a21e0308", func := "ostiary/ostiarylaw04.NameCompares", spec := "nameCompares", inPlace := ["internal/bytealg.abigen_runtime_cmpstring", "internal/abi.NoEscape"], unfollowed := true, recurses := true, apart := false, narrowed := true }
def NameComparesUptoSaid : Prop := nameComparesUptoRow.holds Try.pinned (OpenSpec.upto nameComparesSpec)

/-- 'ostiarylaw04.NameOrders', WHERE WHAT IT READS IS OF BULK AT MOST 1048576: true; the input reads as it did. -/
def nameOrdersUptoRow : OpenClaim := { program := "ytcgcadhnecakaaa", sum := "a0ecb1e09628ad5620dc2be84f31bd06ec690653471cdcccb5ff2104a21e0308", func := "ostiary/ostiarylaw04.NameOrders", spec := "nameOrders", inPlace := ["internal/abi.NoEscape", "internal/bytealg.abigen_runtime_cmpstring"], unfollowed := true, recurses := true, apart := false, narrowed := true }
def NameOrdersUptoSaid : Prop := nameOrdersUptoRow.holds Try.pinned (OpenSpec.upto nameOrdersSpec)

/-- 'ostiarylaw04.NameBack', WHERE WHAT IT READS IS OF BULK AT MOST 1048576: true; the input reads as it did. -/
def nameBackUptoRow : OpenClaim := { program := "ytcgcadhnecakaaa", sum := "a0ecb1e09628ad5620dc2be84f31bd06ec690653471cdcccb5ff2104a21e0308", func := "ostiary/ostiarylaw04.NameBack", spec := "nameBack", inPlace := ["internal/abi.NoEscape"], unfollowed := true, recurses := true, apart := false, narrowed := true }
def NameBackUptoSaid : Prop := nameBackUptoRow.holds Try.pinned (OpenSpec.upto nameBackSpec)

/-- 'ostiarylaw04.NameKnown', WHERE WHAT IT READS IS OF BULK AT MOST 1048576: true; the input reads as it did. -/
def nameKnownUptoRow : OpenClaim := { program := "ytcgcadhnecakaaa", sum := "a0ecb1e09628ad5620dc2be84f31bd06ec690653471cdcccb5ff2104a21e0308", func := "ostiary/ostiarylaw04.NameKnown", spec := "nameKnown", inPlace := ["internal/abi.NoEscape", "internal/bytealg.abigen_runtime_cmpstring"], unfollowed := true, recurses := true, apart := false, narrowed := true }
def NameKnownUptoSaid : Prop := nameKnownUptoRow.holds Try.pinned (OpenSpec.upto nameKnownSpec)

end Rows
end Go.Proofs.Ytcgcadhnecakaaa

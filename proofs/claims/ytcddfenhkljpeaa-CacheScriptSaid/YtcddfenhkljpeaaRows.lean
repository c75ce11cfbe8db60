/-
  No cell of these rows narrows 'for every input' (looked for: loops, veiled, ifaces, maps, wideKeys, modest, calm, conditions, laid).
  DERIVED. THE GIVEN ROWS OF THIS SEAT. 7 by the template 'for every input the law returns true; each argument reads behind the call as it read before'; 0 by the template 'total and deterministic' (their statements: YtcddfenhkljpeaaTotals.lean).
  GIVEN WITH THE SEED: the statements are not yours to turn. If you find one false, say at which input.
  Laid BY PROGRAM, IN A SANDBOX (cutbox-rows.mjs): the forced cells as the released guide's own fill.sh prints them over the translation d482eb7bc3fa65fa… (all of the seat's roots in one cut). By AI agents, Wed Nov 11 2026. No macro, syntax, notation, axiom, sorry.
-/
import Derived.Test.YtcddfenhkljpeaaChecked
import GoSem.Claim
import GoSem.ClaimJoined
import GoSem.ClaimMapViews
import Derived.JoinedTies
import Derived.KernelRfl
namespace Go.Proofs.Ytcddfenhkljpeaa
/- THE CELL 'sum', in the pinned program and in every row, IS THE sha256 OF THE DUMP (.gsa) THAT YtcddfenhkljpeaaProg.lean LOADS. Nothing in Lean hashes anything: it is a label: what it is worth is what the hold of that sum in a sandbox is worth. -/
noncomputable def Try.pinned : Pinned := { name := "ytcddfenhkljpeaa", sum := "d482eb7bc3fa65fa6f00da9f5a807a0ffe60d632ded95081fc669c5e19098307", checked := Try.checked }
namespace Rows
def none {H : Type} : Left H := { results := [], args := [] }

/-- 'ostiarylaw23.CacheKeeps': WHATEVER THE INPUT: true; the input reads as it did. -/
def cacheKeepsSpec : ChangeSpec := { name := "cacheKeeps", fn := fun _ => fun
  | [d1, d2, d3] => { results := [.lit (.bool true)], args := [d1, d2, d3] }
  | _ => none }
def cacheKeepsRow : OpenClaim := { program := "ytcddfenhkljpeaa", sum := "d482eb7bc3fa65fa6f00da9f5a807a0ffe60d632ded95081fc669c5e19098307", func := "ostiary/ostiarylaw23.CacheKeeps", spec := "cacheKeeps", unfollowed := true, recurses := true, plainKeys := false, apart := false }
def CacheKeepsSaid : Prop := cacheKeepsRow.holds Try.pinned (OpenSpec.ofChange cacheKeepsSpec)

/-- ITS FALSE NEIGHBOUR: 'it returns false'. Refute it at one input. -/
def cacheKeepsWrong : ChangeSpec := { name := "cacheKeeps", fn := fun _ => fun
  | [d1, d2, d3] => { results := [.lit (.bool false)], args := [d1, d2, d3] }
  | _ => none }
def CacheKeepsWrongFalsely : Prop := cacheKeepsRow.holds Try.pinned (OpenSpec.ofChange cacheKeepsWrong)

/-- 'ostiarylaw23.CacheRanks': WHATEVER THE INPUT: true; the input reads as it did. -/
def cacheRanksSpec : ChangeSpec := { name := "cacheRanks", fn := fun _ => fun
  | [d1, d2, d3, d4, d5, d6] => { results := [.lit (.bool true)], args := [d1, d2, d3, d4, d5, d6] }
  | _ => none }
def cacheRanksRow : OpenClaim := { program := "ytcddfenhkljpeaa", sum := "d482eb7bc3fa65fa6f00da9f5a807a0ffe60d632ded95081fc669c5e19098307", func := "ostiary/ostiarylaw23.CacheRanks", spec := "cacheRanks", unfollowed := true, recurses := true, plainKeys := false, apart := false }
def CacheRanksSaid : Prop := cacheRanksRow.holds Try.pinned (OpenSpec.ofChange cacheRanksSpec)

/-- ITS FALSE NEIGHBOUR: 'it returns false'. Refute it at one input. -/
def cacheRanksWrong : ChangeSpec := { name := "cacheRanks", fn := fun _ => fun
  | [d1, d2, d3, d4, d5, d6] => { results := [.lit (.bool false)], args := [d1, d2, d3, d4, d5, d6] }
  | _ => none }
def CacheRanksWrongFalsely : Prop := cacheRanksRow.holds Try.pinned (OpenSpec.ofChange cacheRanksWrong)

/-- 'ostiarylaw23.CacheKnown': WHATEVER THE INPUT: true; the input reads as it did. -/
def cacheKnownSpec : ChangeSpec := { name := "cacheKnown", fn := fun _ => fun
  | [] => { results := [.lit (.bool true)], args := [] }
  | _ => none }
def cacheKnownRow : OpenClaim := { program := "ytcddfenhkljpeaa", sum := "d482eb7bc3fa65fa6f00da9f5a807a0ffe60d632ded95081fc669c5e19098307", func := "ostiary/ostiarylaw23.CacheKnown", spec := "cacheKnown", unfollowed := true, recurses := true, plainKeys := false, apart := false }
def CacheKnownSaid : Prop := cacheKnownRow.holds Try.pinned (OpenSpec.ofChange cacheKnownSpec)

/-- ITS FALSE NEIGHBOUR: 'it returns false'. Refute it at one input. -/
def cacheKnownWrong : ChangeSpec := { name := "cacheKnown", fn := fun _ => fun
  | [] => { results := [.lit (.bool false)], args := [] }
  | _ => none }
def CacheKnownWrongFalsely : Prop := cacheKnownRow.holds Try.pinned (OpenSpec.ofChange cacheKnownWrong)

/-- 'ostiarylaw23.CacheOldest': WHATEVER THE INPUT: true; the input reads as it did. -/
def cacheOldestSpec : ChangeSpec := { name := "cacheOldest", fn := fun _ => fun
  | [d1, d2] => { results := [.lit (.bool true)], args := [d1, d2] }
  | _ => none }
def cacheOldestRow : OpenClaim := { program := "ytcddfenhkljpeaa", sum := "d482eb7bc3fa65fa6f00da9f5a807a0ffe60d632ded95081fc669c5e19098307", func := "ostiary/ostiarylaw23.CacheOldest", spec := "cacheOldest", unfollowed := true, recurses := true, plainKeys := false, apart := false }
def CacheOldestSaid : Prop := cacheOldestRow.holds Try.pinned (OpenSpec.ofChange cacheOldestSpec)

/-- ITS FALSE NEIGHBOUR: 'it returns false'. Refute it at one input. -/
def cacheOldestWrong : ChangeSpec := { name := "cacheOldest", fn := fun _ => fun
  | [d1, d2] => { results := [.lit (.bool false)], args := [d1, d2] }
  | _ => none }
def CacheOldestWrongFalsely : Prop := cacheOldestRow.holds Try.pinned (OpenSpec.ofChange cacheOldestWrong)

/-- 'ostiarylaw23.CacheScript': WHATEVER THE INPUT: true; the input reads as it did. -/
def cacheScriptSpec : ChangeSpec := { name := "cacheScript", fn := fun _ => fun
  | [d1, d2, d3, d4] => { results := [.lit (.bool true)], args := [d1, d2, d3, d4] }
  | _ => none }
def cacheScriptRow : OpenClaim := { program := "ytcddfenhkljpeaa", sum := "d482eb7bc3fa65fa6f00da9f5a807a0ffe60d632ded95081fc669c5e19098307", func := "ostiary/ostiarylaw23.CacheScript", spec := "cacheScript", unfollowed := true, recurses := true, plainKeys := false, apart := false }
def CacheScriptSaid : Prop := cacheScriptRow.holds Try.pinned (OpenSpec.ofChange cacheScriptSpec)

/-- ITS FALSE NEIGHBOUR: 'it returns false'. Refute it at one input. -/
def cacheScriptWrong : ChangeSpec := { name := "cacheScript", fn := fun _ => fun
  | [d1, d2, d3, d4] => { results := [.lit (.bool false)], args := [d1, d2, d3, d4] }
  | _ => none }
def CacheScriptWrongFalsely : Prop := cacheScriptRow.holds Try.pinned (OpenSpec.ofChange cacheScriptWrong)

/-- 'ostiarylaw23.CacheNone': WHATEVER THE INPUT: true; the input reads as it did. -/
def cacheNoneSpec : ChangeSpec := { name := "cacheNone", fn := fun _ => fun
  | [d] => { results := [.lit (.bool true)], args := [d] }
  | _ => none }
def cacheNoneRow : OpenClaim := { program := "ytcddfenhkljpeaa", sum := "d482eb7bc3fa65fa6f00da9f5a807a0ffe60d632ded95081fc669c5e19098307", func := "ostiary/ostiarylaw23.CacheNone", spec := "cacheNone", unfollowed := true, recurses := true, plainKeys := false, apart := false }
def CacheNoneSaid : Prop := cacheNoneRow.holds Try.pinned (OpenSpec.ofChange cacheNoneSpec)

/-- ITS FALSE NEIGHBOUR: 'it returns false'. Refute it at one input. -/
def cacheNoneWrong : ChangeSpec := { name := "cacheNone", fn := fun _ => fun
  | [d] => { results := [.lit (.bool false)], args := [d] }
  | _ => none }
def CacheNoneWrongFalsely : Prop := cacheNoneRow.holds Try.pinned (OpenSpec.ofChange cacheNoneWrong)

/-- 'ostiarylaw23.CacheTrue': WHATEVER THE INPUT: true; the input reads as it did. -/
def cacheTrueSpec : ChangeSpec := { name := "cacheTrue", fn := fun _ => fun
  | [d1, d2] => { results := [.lit (.bool true)], args := [d1, d2] }
  | _ => none }
def cacheTrueRow : OpenClaim := { program := "ytcddfenhkljpeaa", sum := "d482eb7bc3fa65fa6f00da9f5a807a0ffe60d632ded95081fc669c5e19098307", func := "ostiary/ostiarylaw23.CacheTrue", spec := "cacheTrue", unfollowed := true, recurses := true, plainKeys := false, apart := false }
def CacheTrueSaid : Prop := cacheTrueRow.holds Try.pinned (OpenSpec.ofChange cacheTrueSpec)

/-- ITS FALSE NEIGHBOUR: 'it returns false'. Refute it at one input. -/
def cacheTrueWrong : ChangeSpec := { name := "cacheTrue", fn := fun _ => fun
  | [d1, d2] => { results := [.lit (.bool false)], args := [d1, d2] }
  | _ => none }
def CacheTrueWrongFalsely : Prop := cacheTrueRow.holds Try.pinned (OpenSpec.ofChange cacheTrueWrong)

/- THE SECOND FORM. 'bulk': how many values and letters a reading holds, each counted each time it is reached (what is shared counts as often as it is met; a slice's spare places count too). A statement '..UptoSaid' is the law's where the arguments, and the package variables that the reading takes, are together of bulk at most 1048576: NARROWER than '..Said'. Prove '..Said' where nothing that the law and all that it calls make is longer than what came in: it says more and counts as full. Else prove '..UptoSaid'. A law counts once. -/
mutual
def uptoBulk {H : Type} : DataW H → Nat
  | .lit (.string bytes) => bytes.length + 1
  | .lit _ => 1
  | .nil => 1
  | .ptr d => uptoBulk d + 1
  | .slice elems spare => uptoBulkAll elems + uptoBulkAll spare + 1
  | .agg parts => uptoBulkAll parts + 1
  | .iface _ d => uptoBulk d + 1
  | .map entries => uptoBulkEntries entries + 1
  | .held _ => 1
def uptoBulkAll {H : Type} : List (DataW H) → Nat
  | [] => 0
  | d :: r => uptoBulk d + uptoBulkAll r
def uptoBulkEntries {H : Type} : List (Lit × DataW H) → Nat
  | [] => 0
  | x :: r => uptoBulkEntry x + uptoBulkEntries r
def uptoBulkEntry {H : Type} : Lit × DataW H → Nat
  | (.string bytes, d) => bytes.length + uptoBulk d + 1
  | (_, d) => uptoBulk d + 1
 end
def uptoSmall : (H : Type) → List (DataW H) → Bool := fun _ ds => decide (uptoBulkAll ds ≤ 1048576)
def OpenSpec.upto (s : _root_.Go.ChangeSpec) : _root_.Go.OpenSpec := { _root_.Go.OpenSpec.ofChange s with cond := some uptoSmall }

/-- 'ostiarylaw23.CacheKeeps', WHERE WHAT IT READS IS OF BULK AT MOST 1048576: true; the input reads as it did. -/
def cacheKeepsUptoRow : OpenClaim := { program := "ytcddfenhkljpeaa", sum := "d482eb7bc3fa65fa6f00da9f5a807a0ffe60d632ded95081fc669c5e19098307", func := "ostiary/ostiarylaw23.CacheKeeps", spec := "cacheKeeps", unfollowed := true, recurses := true, plainKeys := false, apart := false, narrowed := true }
def CacheKeepsUptoSaid : Prop := cacheKeepsUptoRow.holds Try.pinned (OpenSpec.upto cacheKeepsSpec)

/-- 'ostiarylaw23.CacheRanks', WHERE WHAT IT READS IS OF BULK AT MOST 1048576: true; the input reads as it did. -/
def cacheRanksUptoRow : OpenClaim := { program := "ytcddfenhkljpeaa", sum := "d482eb7bc3fa65fa6f00da9f5a807a0ffe60d632ded95081fc669c5e19098307", func := "ostiary/ostiarylaw23.CacheRanks", spec := "cacheRanks", unfollowed := true, recurses := true, plainKeys := false, apart := false, narrowed := true }
def CacheRanksUptoSaid : Prop := cacheRanksUptoRow.holds Try.pinned (OpenSpec.upto cacheRanksSpec)

/-- 'ostiarylaw23.CacheKnown', WHERE WHAT IT READS IS OF BULK AT MOST 1048576: true; the input reads as it did. -/
def cacheKnownUptoRow : OpenClaim := { program := "ytcddfenhkljpeaa", sum := "d482eb7bc3fa65fa6f00da9f5a807a0ffe60d632ded95081fc669c5e19098307", func := "ostiary/ostiarylaw23.CacheKnown", spec := "cacheKnown", unfollowed := true, recurses := true, plainKeys := false, apart := false, narrowed := true }
def CacheKnownUptoSaid : Prop := cacheKnownUptoRow.holds Try.pinned (OpenSpec.upto cacheKnownSpec)

/-- 'ostiarylaw23.CacheOldest', WHERE WHAT IT READS IS OF BULK AT MOST 1048576: true; the input reads as it did. -/
def cacheOldestUptoRow : OpenClaim := { program := "ytcddfenhkljpeaa", sum := "d482eb7bc3fa65fa6f00da9f5a807a0ffe60d632ded95081fc669c5e19098307", func := "ostiary/ostiarylaw23.CacheOldest", spec := "cacheOldest", unfollowed := true, recurses := true, plainKeys := false, apart := false, narrowed := true }
def CacheOldestUptoSaid : Prop := cacheOldestUptoRow.holds Try.pinned (OpenSpec.upto cacheOldestSpec)

/-- 'ostiarylaw23.CacheScript', WHERE WHAT IT READS IS OF BULK AT MOST 1048576: true; the input reads as it did. -/
def cacheScriptUptoRow : OpenClaim := { program := "ytcddfenhkljpeaa", sum := "d482eb7bc3fa65fa6f00da9f5a807a0ffe60d632ded95081fc669c5e19098307", func := "ostiary/ostiarylaw23.CacheScript", spec := "cacheScript", unfollowed := true, recurses := true, plainKeys := false, apart := false, narrowed := true }
def CacheScriptUptoSaid : Prop := cacheScriptUptoRow.holds Try.pinned (OpenSpec.upto cacheScriptSpec)

/-- 'ostiarylaw23.CacheNone', WHERE WHAT IT READS IS OF BULK AT MOST 1048576: true; the input reads as it did. -/
def cacheNoneUptoRow : OpenClaim := { program := "ytcddfenhkljpeaa", sum := "d482eb7bc3fa65fa6f00da9f5a807a0ffe60d632ded95081fc669c5e19098307", func := "ostiary/ostiarylaw23.CacheNone", spec := "cacheNone", unfollowed := true, recurses := true, plainKeys := false, apart := false, narrowed := true }
def CacheNoneUptoSaid : Prop := cacheNoneUptoRow.holds Try.pinned (OpenSpec.upto cacheNoneSpec)

/-- 'ostiarylaw23.CacheTrue', WHERE WHAT IT READS IS OF BULK AT MOST 1048576: true; the input reads as it did. -/
def cacheTrueUptoRow : OpenClaim := { program := "ytcddfenhkljpeaa", sum := "d482eb7bc3fa65fa6f00da9f5a807a0ffe60d632ded95081fc669c5e19098307", func := "ostiary/ostiarylaw23.CacheTrue", spec := "cacheTrue", unfollowed := true, recurses := true, plainKeys := false, apart := false, narrowed := true }
def CacheTrueUptoSaid : Prop := cacheTrueUptoRow.holds Try.pinned (OpenSpec.upto cacheTrueSpec)

end Rows
end Go.Proofs.Ytcddfenhkljpeaa

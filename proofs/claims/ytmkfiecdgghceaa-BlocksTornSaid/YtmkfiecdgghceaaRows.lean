/-
  No cell of these rows narrows 'for every input' (looked for: loops, veiled, ifaces, maps, wideKeys, modest, calm, conditions, laid).
  DERIVED. THE GIVEN ROWS OF THIS SEAT. 8 by the template 'for every input the law returns true; each argument reads behind the call as it read before'; 0 by the template 'total and deterministic' (their statements: YtmkfiecdgghceaaTotals.lean).
  GIVEN WITH THE SEED: the statements are not yours to turn. If you find one false, say at which input.
  Laid BY PROGRAM, IN A SANDBOX (cutbox-rows.mjs): the forced cells as the released guide's own fill.sh prints them over the translation 79586d8d2df03079… (all of the seat's roots in one cut). By AI agents, Wed Nov 11 2026. No macro, syntax, notation, axiom, sorry.
-/
import Derived.Test.YtmkfiecdgghceaaChecked
import GoSem.Claim
import GoSem.ClaimJoined
import GoSem.ClaimMapViews
import Derived.JoinedTies
import Derived.KernelRfl
namespace Go.Proofs.Ytmkfiecdgghceaa
/- THE CELL 'sum', in the pinned program and in every row, IS THE sha256 OF THE DUMP (.gsa) THAT YtmkfiecdgghceaaProg.lean LOADS. Nothing in Lean hashes anything: it is a label: what it is worth is what the hold of that sum in a sandbox is worth. -/
noncomputable def Try.pinned : Pinned := { name := "ytmkfiecdgghceaa", sum := "79586d8d2df03079c70b253727fea0c8b31db13ad740909ce23f6e4ee4066ce3", checked := Try.checked }
namespace Rows
def none {H : Type} : Left H := { results := [], args := [] }

/-- 'wharfingerlaw05.BlocksSums': WHATEVER THE INPUT: true; the input reads as it did. -/
def blocksSumsSpec : ChangeSpec := { name := "blocksSums", fn := fun _ => fun
  | [d1, d2] => { results := [.lit (.bool true)], args := [d1, d2] }
  | _ => none }
def blocksSumsRow : OpenClaim := { program := "ytmkfiecdgghceaa", sum := "79586d8d2df03079c70b253727fea0c8b31db13ad740909ce23f6e4ee4066ce3", func := "wharfinger/wharfingerlaw05.BlocksSums", spec := "blocksSums", unfollowed := true, recurses := true, apart := false }
def BlocksSumsSaid : Prop := blocksSumsRow.holds Try.pinned (OpenSpec.ofChange blocksSumsSpec)

/-- ITS FALSE NEIGHBOUR: 'it returns false'. Refute it at one input. -/
def blocksSumsWrong : ChangeSpec := { name := "blocksSums", fn := fun _ => fun
  | [d1, d2] => { results := [.lit (.bool false)], args := [d1, d2] }
  | _ => none }
def BlocksSumsWrongFalsely : Prop := blocksSumsRow.holds Try.pinned (OpenSpec.ofChange blocksSumsWrong)

/-- 'wharfingerlaw05.BlocksTorn': WHATEVER THE INPUT: true; the input reads as it did. -/
def blocksTornSpec : ChangeSpec := { name := "blocksTorn", fn := fun _ => fun
  | [d1, d2, d3] => { results := [.lit (.bool true)], args := [d1, d2, d3] }
  | _ => none }
def blocksTornRow : OpenClaim := { program := "ytmkfiecdgghceaa", sum := "79586d8d2df03079c70b253727fea0c8b31db13ad740909ce23f6e4ee4066ce3", func := "wharfinger/wharfingerlaw05.BlocksTorn", spec := "blocksTorn", unfollowed := true, recurses := true, apart := false }
def BlocksTornSaid : Prop := blocksTornRow.holds Try.pinned (OpenSpec.ofChange blocksTornSpec)

/-- ITS FALSE NEIGHBOUR: 'it returns false'. Refute it at one input. -/
def blocksTornWrong : ChangeSpec := { name := "blocksTorn", fn := fun _ => fun
  | [d1, d2, d3] => { results := [.lit (.bool false)], args := [d1, d2, d3] }
  | _ => none }
def BlocksTornWrongFalsely : Prop := blocksTornRow.holds Try.pinned (OpenSpec.ofChange blocksTornWrong)

/-- 'wharfingerlaw05.BlocksAppends': WHATEVER THE INPUT: true; the input reads as it did. -/
def blocksAppendsSpec : ChangeSpec := { name := "blocksAppends", fn := fun _ => fun
  | [d1, d2, d3] => { results := [.lit (.bool true)], args := [d1, d2, d3] }
  | _ => none }
def blocksAppendsRow : OpenClaim := { program := "ytmkfiecdgghceaa", sum := "79586d8d2df03079c70b253727fea0c8b31db13ad740909ce23f6e4ee4066ce3", func := "wharfinger/wharfingerlaw05.BlocksAppends", spec := "blocksAppends", unfollowed := true, recurses := true, apart := false }
def BlocksAppendsSaid : Prop := blocksAppendsRow.holds Try.pinned (OpenSpec.ofChange blocksAppendsSpec)

/-- ITS FALSE NEIGHBOUR: 'it returns false'. Refute it at one input. -/
def blocksAppendsWrong : ChangeSpec := { name := "blocksAppends", fn := fun _ => fun
  | [d1, d2, d3] => { results := [.lit (.bool false)], args := [d1, d2, d3] }
  | _ => none }
def BlocksAppendsWrongFalsely : Prop := blocksAppendsRow.holds Try.pinned (OpenSpec.ofChange blocksAppendsWrong)

/-- 'wharfingerlaw05.BlocksPlays': WHATEVER THE INPUT: true; the input reads as it did. -/
def blocksPlaysSpec : ChangeSpec := { name := "blocksPlays", fn := fun _ => fun
  | [d1, d2] => { results := [.lit (.bool true)], args := [d1, d2] }
  | _ => none }
def blocksPlaysRow : OpenClaim := { program := "ytmkfiecdgghceaa", sum := "79586d8d2df03079c70b253727fea0c8b31db13ad740909ce23f6e4ee4066ce3", func := "wharfinger/wharfingerlaw05.BlocksPlays", spec := "blocksPlays", unfollowed := true, recurses := true, apart := false }
def BlocksPlaysSaid : Prop := blocksPlaysRow.holds Try.pinned (OpenSpec.ofChange blocksPlaysSpec)

/-- ITS FALSE NEIGHBOUR: 'it returns false'. Refute it at one input. -/
def blocksPlaysWrong : ChangeSpec := { name := "blocksPlays", fn := fun _ => fun
  | [d1, d2] => { results := [.lit (.bool false)], args := [d1, d2] }
  | _ => none }
def BlocksPlaysWrongFalsely : Prop := blocksPlaysRow.holds Try.pinned (OpenSpec.ofChange blocksPlaysWrong)

/-- 'wharfingerlaw05.BlocksSynced': WHATEVER THE INPUT: true; the input reads as it did. -/
def blocksSyncedSpec : ChangeSpec := { name := "blocksSynced", fn := fun _ => fun
  | [d1, d2, d3] => { results := [.lit (.bool true)], args := [d1, d2, d3] }
  | _ => none }
def blocksSyncedRow : OpenClaim := { program := "ytmkfiecdgghceaa", sum := "79586d8d2df03079c70b253727fea0c8b31db13ad740909ce23f6e4ee4066ce3", func := "wharfinger/wharfingerlaw05.BlocksSynced", spec := "blocksSynced", unfollowed := true, recurses := true, apart := false }
def BlocksSyncedSaid : Prop := blocksSyncedRow.holds Try.pinned (OpenSpec.ofChange blocksSyncedSpec)

/-- ITS FALSE NEIGHBOUR: 'it returns false'. Refute it at one input. -/
def blocksSyncedWrong : ChangeSpec := { name := "blocksSynced", fn := fun _ => fun
  | [d1, d2, d3] => { results := [.lit (.bool false)], args := [d1, d2, d3] }
  | _ => none }
def BlocksSyncedWrongFalsely : Prop := blocksSyncedRow.holds Try.pinned (OpenSpec.ofChange blocksSyncedWrong)

/-- 'wharfingerlaw05.BlocksClean': WHATEVER THE INPUT: true; the input reads as it did. -/
def blocksCleanSpec : ChangeSpec := { name := "blocksClean", fn := fun _ => fun
  | [d1, d2] => { results := [.lit (.bool true)], args := [d1, d2] }
  | _ => none }
def blocksCleanRow : OpenClaim := { program := "ytmkfiecdgghceaa", sum := "79586d8d2df03079c70b253727fea0c8b31db13ad740909ce23f6e4ee4066ce3", func := "wharfinger/wharfingerlaw05.BlocksClean", spec := "blocksClean", unfollowed := true, recurses := true, apart := false }
def BlocksCleanSaid : Prop := blocksCleanRow.holds Try.pinned (OpenSpec.ofChange blocksCleanSpec)

/-- ITS FALSE NEIGHBOUR: 'it returns false'. Refute it at one input. -/
def blocksCleanWrong : ChangeSpec := { name := "blocksClean", fn := fun _ => fun
  | [d1, d2] => { results := [.lit (.bool false)], args := [d1, d2] }
  | _ => none }
def BlocksCleanWrongFalsely : Prop := blocksCleanRow.holds Try.pinned (OpenSpec.ofChange blocksCleanWrong)

/-- 'wharfingerlaw05.BlocksForks': WHATEVER THE INPUT: true; the input reads as it did. -/
def blocksForksSpec : ChangeSpec := { name := "blocksForks", fn := fun _ => fun
  | [d1, d2] => { results := [.lit (.bool true)], args := [d1, d2] }
  | _ => none }
def blocksForksRow : OpenClaim := { program := "ytmkfiecdgghceaa", sum := "79586d8d2df03079c70b253727fea0c8b31db13ad740909ce23f6e4ee4066ce3", func := "wharfinger/wharfingerlaw05.BlocksForks", spec := "blocksForks", unfollowed := true, recurses := true, apart := false }
def BlocksForksSaid : Prop := blocksForksRow.holds Try.pinned (OpenSpec.ofChange blocksForksSpec)

/-- ITS FALSE NEIGHBOUR: 'it returns false'. Refute it at one input. -/
def blocksForksWrong : ChangeSpec := { name := "blocksForks", fn := fun _ => fun
  | [d1, d2] => { results := [.lit (.bool false)], args := [d1, d2] }
  | _ => none }
def BlocksForksWrongFalsely : Prop := blocksForksRow.holds Try.pinned (OpenSpec.ofChange blocksForksWrong)

/-- 'wharfingerlaw05.BlocksNone': WHATEVER THE INPUT: true; the input reads as it did. -/
def blocksNoneSpec : ChangeSpec := { name := "blocksNone", fn := fun _ => fun
  | [d1, d2] => { results := [.lit (.bool true)], args := [d1, d2] }
  | _ => none }
def blocksNoneRow : OpenClaim := { program := "ytmkfiecdgghceaa", sum := "79586d8d2df03079c70b253727fea0c8b31db13ad740909ce23f6e4ee4066ce3", func := "wharfinger/wharfingerlaw05.BlocksNone", spec := "blocksNone", unfollowed := true, recurses := true, apart := false }
def BlocksNoneSaid : Prop := blocksNoneRow.holds Try.pinned (OpenSpec.ofChange blocksNoneSpec)

/-- ITS FALSE NEIGHBOUR: 'it returns false'. Refute it at one input. -/
def blocksNoneWrong : ChangeSpec := { name := "blocksNone", fn := fun _ => fun
  | [d1, d2] => { results := [.lit (.bool false)], args := [d1, d2] }
  | _ => none }
def BlocksNoneWrongFalsely : Prop := blocksNoneRow.holds Try.pinned (OpenSpec.ofChange blocksNoneWrong)

/- THE SECOND FORM. 'bulk': how many values and letters a reading holds, each counted each time it is reached (what is shared counts as often as it is met; a slice's spare places count too). A statement '..UptoSaid' is the law's where the arguments, and the package variables that the reading takes, are together of bulk at most 1048576: NARROWER than '..Said'. Prove '..Said' where nothing that the law and all that it calls make is longer than what came in: it says more and counts as full. Else prove '..UptoSaid'. A law counts once. -/
mutual
def uptoBulk {H : Type} : DataW H → Nat
  | .lit (.string bytes) => bytes.length + 1
  | .lit _ => 1
  | .nil => 1
  | .ptr d => uptoBulk d + 1
  | .slice elems spare => uptoBulkAll elems + uptoBulkAll spare + 1
  | .agg parts => uptoBulkAll parts + 1
  | .iface _ d => uptoBulk d + 1
  | .map entries => uptoBulkEntries entries + 1
  | .held _ => 1
def uptoBulkAll {H : Type} : List (DataW H) → Nat
  | [] => 0
  | d :: r => uptoBulk d + uptoBulkAll r
def uptoBulkEntries {H : Type} : List (Lit × DataW H) → Nat
  | [] => 0
  | x :: r => uptoBulkEntry x + uptoBulkEntries r
def uptoBulkEntry {H : Type} : Lit × DataW H → Nat
  | (.string bytes, d) => bytes.length + uptoBulk d + 1
  | (_, d) => uptoBulk d + 1
 end
def uptoSmall : (H : Type) → List (DataW H) → Bool := fun _ ds => decide (uptoBulkAll ds ≤ 1048576)
def OpenSpec.upto (s : _root_.Go.ChangeSpec) : _root_.Go.OpenSpec := { _root_.Go.OpenSpec.ofChange s with cond := some uptoSmall }

/-- 'wharfingerlaw05.BlocksSums', WHERE WHAT IT READS IS OF BULK AT MOST 1048576: true; the input reads as it did. -/
def blocksSumsUptoRow : OpenClaim := { program := "ytmkfiecdgghceaa", sum := "79586d8d2df03079c70b253727fea0c8b31db13ad740909ce23f6e4ee4066ce3", func := "wharfinger/wharfingerlaw05.BlocksSums", spec := "blocksSums", unfollowed := true, recurses := true, apart := false, narrowed := true }
def BlocksSumsUptoSaid : Prop := blocksSumsUptoRow.holds Try.pinned (OpenSpec.upto blocksSumsSpec)

/-- 'wharfingerlaw05.BlocksTorn', WHERE WHAT IT READS IS OF BULK AT MOST 1048576: true; the input reads as it did. -/
def blocksTornUptoRow : OpenClaim := { program := "ytmkfiecdgghceaa", sum := "79586d8d2df03079c70b253727fea0c8b31db13ad740909ce23f6e4ee4066ce3", func := "wharfinger/wharfingerlaw05.BlocksTorn", spec := "blocksTorn", unfollowed := true, recurses := true, apart := false, narrowed := true }
def BlocksTornUptoSaid : Prop := blocksTornUptoRow.holds Try.pinned (OpenSpec.upto blocksTornSpec)

/-- 'wharfingerlaw05.BlocksAppends', WHERE WHAT IT READS IS OF BULK AT MOST 1048576: true; the input reads as it did. -/
def blocksAppendsUptoRow : OpenClaim := { program := "ytmkfiecdgghceaa", sum := "79586d8d2df03079c70b253727fea0c8b31db13ad740909ce23f6e4ee4066ce3", func := "wharfinger/wharfingerlaw05.BlocksAppends", spec := "blocksAppends", unfollowed := true, recurses := true, apart := false, narrowed := true }
def BlocksAppendsUptoSaid : Prop := blocksAppendsUptoRow.holds Try.pinned (OpenSpec.upto blocksAppendsSpec)

/-- 'wharfingerlaw05.BlocksPlays', WHERE WHAT IT READS IS OF BULK AT MOST 1048576: true; the input reads as it did. -/
def blocksPlaysUptoRow : OpenClaim := { program := "ytmkfiecdgghceaa", sum := "79586d8d2df03079c70b253727fea0c8b31db13ad740909ce23f6e4ee4066ce3", func := "wharfinger/wharfingerlaw05.BlocksPlays", spec := "blocksPlays", unfollowed := true, recurses := true, apart := false, narrowed := true }
def BlocksPlaysUptoSaid : Prop := blocksPlaysUptoRow.holds Try.pinned (OpenSpec.upto blocksPlaysSpec)

/-- 'wharfingerlaw05.BlocksSynced', WHERE WHAT IT READS IS OF BULK AT MOST 1048576: true; the input reads as it did. -/
def blocksSyncedUptoRow : OpenClaim := { program := "ytmkfiecdgghceaa", sum := "79586d8d2df03079c70b253727fea0c8b31db13ad740909ce23f6e4ee4066ce3", func := "wharfinger/wharfingerlaw05.BlocksSynced", spec := "blocksSynced", unfollowed := true, recurses := true, apart := false, narrowed := true }
def BlocksSyncedUptoSaid : Prop := blocksSyncedUptoRow.holds Try.pinned (OpenSpec.upto blocksSyncedSpec)

/-- 'wharfingerlaw05.BlocksClean', WHERE WHAT IT READS IS OF BULK AT MOST 1048576: true; the input reads as it did. -/
def blocksCleanUptoRow : OpenClaim := { program := "ytmkfiecdgghceaa", sum := "79586d8d2df03079c70b253727fea0c8b31db13ad740909ce23f6e4ee4066ce3", func := "wharfinger/wharfingerlaw05.BlocksClean", spec := "blocksClean", unfollowed := true, recurses := true, apart := false, narrowed := true }
def BlocksCleanUptoSaid : Prop := blocksCleanUptoRow.holds Try.pinned (OpenSpec.upto blocksCleanSpec)

/-- 'wharfingerlaw05.BlocksForks', WHERE WHAT IT READS IS OF BULK AT MOST 1048576: true; the input reads as it did. -/
def blocksForksUptoRow : OpenClaim := { program := "ytmkfiecdgghceaa", sum := "79586d8d2df03079c70b253727fea0c8b31db13ad740909ce23f6e4ee4066ce3", func := "wharfinger/wharfingerlaw05.BlocksForks", spec := "blocksForks", unfollowed := true, recurses := true, apart := false, narrowed := true }
def BlocksForksUptoSaid : Prop := blocksForksUptoRow.holds Try.pinned (OpenSpec.upto blocksForksSpec)

/-- 'wharfingerlaw05.BlocksNone', WHERE WHAT IT READS IS OF BULK AT MOST 1048576: true; the input reads as it did. -/
def blocksNoneUptoRow : OpenClaim := { program := "ytmkfiecdgghceaa", sum := "79586d8d2df03079c70b253727fea0c8b31db13ad740909ce23f6e4ee4066ce3", func := "wharfinger/wharfingerlaw05.BlocksNone", spec := "blocksNone", unfollowed := true, recurses := true, apart := false, narrowed := true }
def BlocksNoneUptoSaid : Prop := blocksNoneUptoRow.holds Try.pinned (OpenSpec.upto blocksNoneSpec)

end Rows
end Go.Proofs.Ytmkfiecdgghceaa

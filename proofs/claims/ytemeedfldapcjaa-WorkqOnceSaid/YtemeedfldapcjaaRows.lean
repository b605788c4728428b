/-
  No cell of these rows narrows 'for every input' (looked for: loops, veiled, ifaces, maps, wideKeys, modest, calm, conditions, laid).
  DERIVED. THE GIVEN ROWS OF THIS SEAT. 8 by the template 'for every input the law returns true; each argument reads behind the call as it read before'; 0 by the template 'total and deterministic' (their statements: YtemeedfldapcjaaTotals.lean).
  GIVEN WITH THE SEED: the statements are not yours to turn. If you find one false, say at which input.
  Laid BY PROGRAM, IN A SANDBOX (cutbox-rows.mjs): the forced cells as the released guide's own fill.sh prints them over the translation 181a6a9a5428b207… (all of the seat's roots in one cut). By AI agents, Wed Nov 11 2026. No macro, syntax, notation, axiom, sorry.
-/
import Derived.Test.YtemeedfldapcjaaChecked
import GoSem.Claim
import GoSem.ClaimJoined
import GoSem.ClaimMapViews
import Derived.JoinedTies
import Derived.KernelRfl
namespace Go.Proofs.Ytemeedfldapcjaa
/- THE CELL 'sum', in the pinned program and in every row, IS THE sha256 OF THE DUMP (.gsa) THAT YtemeedfldapcjaaProg.lean LOADS. Nothing in Lean hashes anything: it is a label: what it is worth is what the hold of that sum in a sandbox is worth. -/
noncomputable def Try.pinned : Pinned := { name := "ytemeedfldapcjaa", sum := "181a6a9a5428b20775476cf9fc0599fc81c91ed69399b8c67d30cb0d43763d9b", checked := Try.checked }
namespace Rows
def none {H : Type} : Left H := { results := [], args := [] }

/-- 'wharfingerlaw08.WorkqDelays': WHATEVER THE INPUT: true; the input reads as it did. -/
def workqDelaysSpec : ChangeSpec := { name := "workqDelays", fn := fun _ => fun
  | [d] => { results := [.lit (.bool true)], args := [d] }
  | _ => none }
def workqDelaysRow : OpenClaim := { program := "ytemeedfldapcjaa", sum := "181a6a9a5428b20775476cf9fc0599fc81c91ed69399b8c67d30cb0d43763d9b", func := "wharfinger/wharfingerlaw08.WorkqDelays", spec := "workqDelays", unfollowed := true, recurses := true, plainKeys := false, apart := false }
def WorkqDelaysSaid : Prop := workqDelaysRow.holds Try.pinned (OpenSpec.ofChange workqDelaysSpec)

/-- ITS FALSE NEIGHBOUR: 'it returns false'. Refute it at one input. -/
def workqDelaysWrong : ChangeSpec := { name := "workqDelays", fn := fun _ => fun
  | [d] => { results := [.lit (.bool false)], args := [d] }
  | _ => none }
def WorkqDelaysWrongFalsely : Prop := workqDelaysRow.holds Try.pinned (OpenSpec.ofChange workqDelaysWrong)

/-- 'wharfingerlaw08.WorkqFull': WHATEVER THE INPUT: true; the input reads as it did. -/
def workqFullSpec : ChangeSpec := { name := "workqFull", fn := fun _ => fun
  | [d] => { results := [.lit (.bool true)], args := [d] }
  | _ => none }
def workqFullRow : OpenClaim := { program := "ytemeedfldapcjaa", sum := "181a6a9a5428b20775476cf9fc0599fc81c91ed69399b8c67d30cb0d43763d9b", func := "wharfinger/wharfingerlaw08.WorkqFull", spec := "workqFull", unfollowed := true, recurses := true, plainKeys := false, apart := false }
def WorkqFullSaid : Prop := workqFullRow.holds Try.pinned (OpenSpec.ofChange workqFullSpec)

/-- ITS FALSE NEIGHBOUR: 'it returns false'. Refute it at one input. -/
def workqFullWrong : ChangeSpec := { name := "workqFull", fn := fun _ => fun
  | [d] => { results := [.lit (.bool false)], args := [d] }
  | _ => none }
def WorkqFullWrongFalsely : Prop := workqFullRow.holds Try.pinned (OpenSpec.ofChange workqFullWrong)

/-- 'wharfingerlaw08.WorkqFails': WHATEVER THE INPUT: true; the input reads as it did. -/
def workqFailsSpec : ChangeSpec := { name := "workqFails", fn := fun _ => fun
  | [d1, d2, d3] => { results := [.lit (.bool true)], args := [d1, d2, d3] }
  | _ => none }
def workqFailsRow : OpenClaim := { program := "ytemeedfldapcjaa", sum := "181a6a9a5428b20775476cf9fc0599fc81c91ed69399b8c67d30cb0d43763d9b", func := "wharfinger/wharfingerlaw08.WorkqFails", spec := "workqFails", unfollowed := true, recurses := true, plainKeys := false, apart := false }
def WorkqFailsSaid : Prop := workqFailsRow.holds Try.pinned (OpenSpec.ofChange workqFailsSpec)

/-- ITS FALSE NEIGHBOUR: 'it returns false'. Refute it at one input. -/
def workqFailsWrong : ChangeSpec := { name := "workqFails", fn := fun _ => fun
  | [d1, d2, d3] => { results := [.lit (.bool false)], args := [d1, d2, d3] }
  | _ => none }
def WorkqFailsWrongFalsely : Prop := workqFailsRow.holds Try.pinned (OpenSpec.ofChange workqFailsWrong)

/-- 'wharfingerlaw08.WorkqDue': WHATEVER THE INPUT: true; the input reads as it did. -/
def workqDueSpec : ChangeSpec := { name := "workqDue", fn := fun _ => fun
  | [d1, d2] => { results := [.lit (.bool true)], args := [d1, d2] }
  | _ => none }
def workqDueRow : OpenClaim := { program := "ytemeedfldapcjaa", sum := "181a6a9a5428b20775476cf9fc0599fc81c91ed69399b8c67d30cb0d43763d9b", func := "wharfinger/wharfingerlaw08.WorkqDue", spec := "workqDue", inPlace := ["maps.clone"], unfollowed := true, recurses := true, plainKeys := false, apart := false }
def WorkqDueSaid : Prop := workqDueRow.holds Try.pinned (OpenSpec.ofChange workqDueSpec)

/-- ITS FALSE NEIGHBOUR: 'it returns false'. Refute it at one input. -/
def workqDueWrong : ChangeSpec := { name := "workqDue", fn := fun _ => fun
  | [d1, d2] => { results := [.lit (.bool false)], args := [d1, d2] }
  | _ => none }
def WorkqDueWrongFalsely : Prop := workqDueRow.holds Try.pinned (OpenSpec.ofChange workqDueWrong)

/-- 'wharfingerlaw08.WorkqOnce': WHATEVER THE INPUT: true; the input reads as it did. -/
def workqOnceSpec : ChangeSpec := { name := "workqOnce", fn := fun _ => fun
  | [d1, d2, d3] => { results := [.lit (.bool true)], args := [d1, d2, d3] }
  | _ => none }
def workqOnceRow : OpenClaim := { program := "ytemeedfldapcjaa", sum := "181a6a9a5428b20775476cf9fc0599fc81c91ed69399b8c67d30cb0d43763d9b", func := "wharfinger/wharfingerlaw08.WorkqOnce", spec := "workqOnce", inPlace := ["maps.clone"], unfollowed := true, recurses := true, plainKeys := false, apart := false }
def WorkqOnceSaid : Prop := workqOnceRow.holds Try.pinned (OpenSpec.ofChange workqOnceSpec)

/-- ITS FALSE NEIGHBOUR: 'it returns false'. Refute it at one input. -/
def workqOnceWrong : ChangeSpec := { name := "workqOnce", fn := fun _ => fun
  | [d1, d2, d3] => { results := [.lit (.bool false)], args := [d1, d2, d3] }
  | _ => none }
def WorkqOnceWrongFalsely : Prop := workqOnceRow.holds Try.pinned (OpenSpec.ofChange workqOnceWrong)

/-- 'wharfingerlaw08.WorkqPlays': WHATEVER THE INPUT: true; the input reads as it did. -/
def workqPlaysSpec : ChangeSpec := { name := "workqPlays", fn := fun _ => fun
  | [d1, d2, d3] => { results := [.lit (.bool true)], args := [d1, d2, d3] }
  | _ => none }
def workqPlaysRow : OpenClaim := { program := "ytemeedfldapcjaa", sum := "181a6a9a5428b20775476cf9fc0599fc81c91ed69399b8c67d30cb0d43763d9b", func := "wharfinger/wharfingerlaw08.WorkqPlays", spec := "workqPlays", inPlace := ["maps.clone"], unfollowed := true, recurses := true, plainKeys := false, apart := false }
def WorkqPlaysSaid : Prop := workqPlaysRow.holds Try.pinned (OpenSpec.ofChange workqPlaysSpec)

/-- ITS FALSE NEIGHBOUR: 'it returns false'. Refute it at one input. -/
def workqPlaysWrong : ChangeSpec := { name := "workqPlays", fn := fun _ => fun
  | [d1, d2, d3] => { results := [.lit (.bool false)], args := [d1, d2, d3] }
  | _ => none }
def WorkqPlaysWrongFalsely : Prop := workqPlaysRow.holds Try.pinned (OpenSpec.ofChange workqPlaysWrong)

/-- 'wharfingerlaw08.WorkqForks': WHATEVER THE INPUT: true; the input reads as it did. -/
def workqForksSpec : ChangeSpec := { name := "workqForks", fn := fun _ => fun
  | [d1, d2] => { results := [.lit (.bool true)], args := [d1, d2] }
  | _ => none }
def workqForksRow : OpenClaim := { program := "ytemeedfldapcjaa", sum := "181a6a9a5428b20775476cf9fc0599fc81c91ed69399b8c67d30cb0d43763d9b", func := "wharfinger/wharfingerlaw08.WorkqForks", spec := "workqForks", inPlace := ["maps.clone"], unfollowed := true, recurses := true, plainKeys := false, apart := false }
def WorkqForksSaid : Prop := workqForksRow.holds Try.pinned (OpenSpec.ofChange workqForksSpec)

/-- ITS FALSE NEIGHBOUR: 'it returns false'. Refute it at one input. -/
def workqForksWrong : ChangeSpec := { name := "workqForks", fn := fun _ => fun
  | [d1, d2] => { results := [.lit (.bool false)], args := [d1, d2] }
  | _ => none }
def WorkqForksWrongFalsely : Prop := workqForksRow.holds Try.pinned (OpenSpec.ofChange workqForksWrong)

/-- 'wharfingerlaw08.WorkqNone': WHATEVER THE INPUT: true; the input reads as it did. -/
def workqNoneSpec : ChangeSpec := { name := "workqNone", fn := fun _ => fun
  | [d] => { results := [.lit (.bool true)], args := [d] }
  | _ => none }
def workqNoneRow : OpenClaim := { program := "ytemeedfldapcjaa", sum := "181a6a9a5428b20775476cf9fc0599fc81c91ed69399b8c67d30cb0d43763d9b", func := "wharfinger/wharfingerlaw08.WorkqNone", spec := "workqNone", inPlace := ["maps.clone"], unfollowed := true, recurses := true, plainKeys := false, apart := false }
def WorkqNoneSaid : Prop := workqNoneRow.holds Try.pinned (OpenSpec.ofChange workqNoneSpec)

/-- ITS FALSE NEIGHBOUR: 'it returns false'. Refute it at one input. -/
def workqNoneWrong : ChangeSpec := { name := "workqNone", fn := fun _ => fun
  | [d] => { results := [.lit (.bool false)], args := [d] }
  | _ => none }
def WorkqNoneWrongFalsely : Prop := workqNoneRow.holds Try.pinned (OpenSpec.ofChange workqNoneWrong)

/- THE SECOND FORM. 'bulk': how many values and letters a reading holds, each counted each time it is reached (what is shared counts as often as it is met; a slice's spare places count too). A statement '..UptoSaid' is the law's where the arguments, and the package variables that the reading takes, are together of bulk at most 1048576: NARROWER than '..Said'. Prove '..Said' where nothing that the law and all that it calls make is longer than what came in: it says more and counts as full. Else prove '..UptoSaid'. A law counts once. -/
mutual
def uptoBulk {H : Type} : DataW H → Nat
  | .lit (.string bytes) => bytes.length + 1
  | .lit _ => 1
  | .nil => 1
  | .ptr d => uptoBulk d + 1
  | .slice elems spare => uptoBulkAll elems + uptoBulkAll spare + 1
  | .agg parts => uptoBulkAll parts + 1
  | .iface _ d => uptoBulk d + 1
  | .map entries => uptoBulkEntries entries + 1
  | .held _ => 1
def uptoBulkAll {H : Type} : List (DataW H) → Nat
  | [] => 0
  | d :: r => uptoBulk d + uptoBulkAll r
def uptoBulkEntries {H : Type} : List (Lit × DataW H) → Nat
  | [] => 0
  | x :: r => uptoBulkEntry x + uptoBulkEntries r
def uptoBulkEntry {H : Type} : Lit × DataW H → Nat
  | (.string bytes, d) => bytes.length + uptoBulk d + 1
  | (_, d) => uptoBulk d + 1
 end
def uptoSmall : (H : Type) → List (DataW H) → Bool := fun _ ds => decide (uptoBulkAll ds ≤ 1048576)
def OpenSpec.upto (s : _root_.Go.ChangeSpec) : _root_.Go.OpenSpec := { _root_.Go.OpenSpec.ofChange s with cond := some uptoSmall }

/-- 'wharfingerlaw08.WorkqDelays', WHERE WHAT IT READS IS OF BULK AT MOST 1048576: true; the input reads as it did. -/
def workqDelaysUptoRow : OpenClaim := { program := "ytemeedfldapcjaa", sum := "181a6a9a5428b20775476cf9fc0599fc81c91ed69399b8c67d30cb0d43763d9b", func := "wharfinger/wharfingerlaw08.WorkqDelays", spec := "workqDelays", unfollowed := true, recurses := true, plainKeys := false, apart := false, narrowed := true }
def WorkqDelaysUptoSaid : Prop := workqDelaysUptoRow.holds Try.pinned (OpenSpec.upto workqDelaysSpec)

/-- 'wharfingerlaw08.WorkqFull', WHERE WHAT IT READS IS OF BULK AT MOST 1048576: true; the input reads as it did. -/
def workqFullUptoRow : OpenClaim := { program := "ytemeedfldapcjaa", sum := "181a6a9a5428b20775476cf9fc0599fc81c91ed69399b8c67d30cb0d43763d9b", func := "wharfinger/wharfingerlaw08.WorkqFull", spec := "workqFull", unfollowed := true, recurses := true, plainKeys := false, apart := false, narrowed := true }
def WorkqFullUptoSaid : Prop := workqFullUptoRow.holds Try.pinned (OpenSpec.upto workqFullSpec)

/-- 'wharfingerlaw08.WorkqFails', WHERE WHAT IT READS IS OF BULK AT MOST 1048576: true; the input reads as it did. -/
def workqFailsUptoRow : OpenClaim := { program := "ytemeedfldapcjaa", sum := "181a6a9a5428b20775476cf9fc0599fc81c91ed69399b8c67d30cb0d43763d9b", func := "wharfinger/wharfingerlaw08.WorkqFails", spec := "workqFails", unfollowed := true, recurses := true, plainKeys := false, apart := false, narrowed := true }
def WorkqFailsUptoSaid : Prop := workqFailsUptoRow.holds Try.pinned (OpenSpec.upto workqFailsSpec)

/-- 'wharfingerlaw08.WorkqDue', WHERE WHAT IT READS IS OF BULK AT MOST 1048576: true; the input reads as it did. -/
def workqDueUptoRow : OpenClaim := { program := "ytemeedfldapcjaa", sum := "181a6a9a5428b20775476cf9fc0599fc81c91ed69399b8c67d30cb0d43763d9b", func := "wharfinger/wharfingerlaw08.WorkqDue", spec := "workqDue", inPlace := ["maps.clone"], unfollowed := true, recurses := true, plainKeys := false, apart := false, narrowed := true }
def WorkqDueUptoSaid : Prop := workqDueUptoRow.holds Try.pinned (OpenSpec.upto workqDueSpec)

/-- 'wharfingerlaw08.WorkqOnce', WHERE WHAT IT READS IS OF BULK AT MOST 1048576: true; the input reads as it did. -/
def workqOnceUptoRow : OpenClaim := { program := "ytemeedfldapcjaa", sum := "181a6a9a5428b20775476cf9fc0599fc81c91ed69399b8c67d30cb0d43763d9b", func := "wharfinger/wharfingerlaw08.WorkqOnce", spec := "workqOnce", inPlace := ["maps.clone"], unfollowed := true, recurses := true, plainKeys := false, apart := false, narrowed := true }
def WorkqOnceUptoSaid : Prop := workqOnceUptoRow.holds Try.pinned (OpenSpec.upto workqOnceSpec)

/-- 'wharfingerlaw08.WorkqPlays', WHERE WHAT IT READS IS OF BULK AT MOST 1048576: true; the input reads as it did. -/
def workqPlaysUptoRow : OpenClaim := { program := "ytemeedfldapcjaa", sum := "181a6a9a5428b20775476cf9fc0599fc81c91ed69399b8c67d30cb0d43763d9b", func := "wharfinger/wharfingerlaw08.WorkqPlays", spec := "workqPlays", inPlace := ["maps.clone"], unfollowed := true, recurses := true, plainKeys := false, apart := false, narrowed := true }
def WorkqPlaysUptoSaid : Prop := workqPlaysUptoRow.holds Try.pinned (OpenSpec.upto workqPlaysSpec)

/-- 'wharfingerlaw08.WorkqForks', WHERE WHAT IT READS IS OF BULK AT MOST 1048576: true; the input reads as it did. -/
def workqForksUptoRow : OpenClaim := { program := "ytemeedfldapcjaa", sum := "181a6a9a5428b20775476cf9fc0599fc81c91ed69399b8c67d30cb0d43763d9b", func := "wharfinger/wharfingerlaw08.WorkqForks", spec := "workqForks", inPlace := ["maps.clone"], unfollowed := true, recurses := true, plainKeys := false, apart := false, narrowed := true }
def WorkqForksUptoSaid : Prop := workqForksUptoRow.holds Try.pinned (OpenSpec.upto workqForksSpec)

/-- 'wharfingerlaw08.WorkqNone', WHERE WHAT IT READS IS OF BULK AT MOST 1048576: true; the input reads as it did. -/
def workqNoneUptoRow : OpenClaim := { program := "ytemeedfldapcjaa", sum := "181a6a9a5428b20775476cf9fc0599fc81c91ed69399b8c67d30cb0d43763d9b", func := "wharfinger/wharfingerlaw08.WorkqNone", spec := "workqNone", inPlace := ["maps.clone"], unfollowed := true, recurses := true, plainKeys := false, apart := false, narrowed := true }
def WorkqNoneUptoSaid : Prop := workqNoneUptoRow.holds Try.pinned (OpenSpec.upto workqNoneSpec)

end Rows
end Go.Proofs.Ytemeedfldapcjaa

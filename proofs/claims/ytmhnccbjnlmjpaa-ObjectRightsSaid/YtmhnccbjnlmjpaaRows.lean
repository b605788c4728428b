/-
  No cell of these rows narrows 'for every input' (looked for: loops, veiled, ifaces, maps, wideKeys, modest, calm, conditions, laid).
  DERIVED. THE GIVEN ROWS OF THIS SEAT. 7 by the template 'for every input the law returns true; each argument reads behind the call as it read before'; 0 by the template 'total and deterministic' (their statements: YtmhnccbjnlmjpaaTotals.lean).
  GIVEN WITH THE SEED: the statements are not yours to turn. If you find one false, say at which input.
  Laid BY PROGRAM, IN A SANDBOX (cutbox-rows.mjs): the forced cells as the released guide's own fill.sh prints them over the translation d4746686118923fe… (all of the seat's roots in one cut). By AI agents, Wed Nov 11 2026. No macro, syntax, notation, axiom, sorry.
-/
import Derived.Test.YtmhnccbjnlmjpaaChecked
import GoSem.Claim
import GoSem.ClaimJoined
import GoSem.ClaimMapViews
import Derived.JoinedTies
import Derived.KernelRfl
namespace Go.Proofs.Ytmhnccbjnlmjpaa
/- THE CELL 'sum', in the pinned program and in every row, IS THE sha256 OF THE DUMP (.gsa) THAT YtmhnccbjnlmjpaaProg.lean LOADS. Nothing in Lean hashes anything: it is a label: what it is worth is what the hold of that sum in a sandbox is worth. -/
noncomputable def Try.pinned : Pinned := { name := "ytmhnccbjnlmjpaa", sum := "d4746686118923fe325001ff4cdc85312e596ec9c731afe9006712c0655b5d66", checked := Try.checked }
namespace Rows
def none {H : Type} : Left H := { results := [], args := [] }

/-- 'wharfingerlaw03.ObjectRights': WHATEVER THE INPUT: true; the input reads as it did. -/
def objectRightsSpec : ChangeSpec := { name := "objectRights", fn := fun _ => fun
  | [d] => { results := [.lit (.bool true)], args := [d] }
  | _ => none }
def objectRightsRow : OpenClaim := { program := "ytmhnccbjnlmjpaa", sum := "d4746686118923fe325001ff4cdc85312e596ec9c731afe9006712c0655b5d66", func := "wharfinger/wharfingerlaw03.ObjectRights", spec := "objectRights", inPlace := ["internal/abi.NoEscape", "internal/bytealg.MakeNoZero", "internal/bytealg.IndexByteString", "internal/bytealg.IndexString"], unfollowed := true, recurses := true, named := ["internal/bytealg.MaxLen"], apart := false }
def ObjectRightsSaid : Prop := objectRightsRow.holds Try.pinned (OpenSpec.ofChange objectRightsSpec)

/-- ITS FALSE NEIGHBOUR: 'it returns false'. Refute it at one input. -/
def objectRightsWrong : ChangeSpec := { name := "objectRights", fn := fun _ => fun
  | [d] => { results := [.lit (.bool false)], args := [d] }
  | _ => none }
def ObjectRightsWrongFalsely : Prop := objectRightsRow.holds Try.pinned (OpenSpec.ofChange objectRightsWrong)

/-- 'wharfingerlaw03.ObjectNames': WHATEVER THE INPUT: true; the input reads as it did. -/
def objectNamesSpec : ChangeSpec := { name := "objectNames", fn := fun _ => fun
  | [d1, d2] => { results := [.lit (.bool true)], args := [d1, d2] }
  | _ => none }
def objectNamesRow : OpenClaim := { program := "ytmhnccbjnlmjpaa", sum := "d4746686118923fe325001ff4cdc85312e596ec9c731afe9006712c0655b5d66", func := "wharfinger/wharfingerlaw03.ObjectNames", spec := "objectNames", inPlace := ["internal/abi.NoEscape", "internal/bytealg.MakeNoZero", "internal/bytealg.IndexByteString", "internal/bytealg.IndexString"], unfollowed := true, recurses := true, named := ["internal/bytealg.MaxLen"], apart := false }
def ObjectNamesSaid : Prop := objectNamesRow.holds Try.pinned (OpenSpec.ofChange objectNamesSpec)

/-- ITS FALSE NEIGHBOUR: 'it returns false'. Refute it at one input. -/
def objectNamesWrong : ChangeSpec := { name := "objectNames", fn := fun _ => fun
  | [d1, d2] => { results := [.lit (.bool false)], args := [d1, d2] }
  | _ => none }
def ObjectNamesWrongFalsely : Prop := objectNamesRow.holds Try.pinned (OpenSpec.ofChange objectNamesWrong)

/-- 'wharfingerlaw03.ObjectUsers': WHATEVER THE INPUT: true; the input reads as it did. -/
def objectUsersSpec : ChangeSpec := { name := "objectUsers", fn := fun _ => fun
  | [d] => { results := [.lit (.bool true)], args := [d] }
  | _ => none }
def objectUsersRow : OpenClaim := { program := "ytmhnccbjnlmjpaa", sum := "d4746686118923fe325001ff4cdc85312e596ec9c731afe9006712c0655b5d66", func := "wharfinger/wharfingerlaw03.ObjectUsers", spec := "objectUsers", inPlace := ["internal/bytealg.IndexByteString", "internal/bytealg.IndexString", "internal/abi.NoEscape", "internal/bytealg.MakeNoZero"], unfollowed := true, recurses := true, named := ["internal/bytealg.MaxLen"], apart := false }
def ObjectUsersSaid : Prop := objectUsersRow.holds Try.pinned (OpenSpec.ofChange objectUsersSpec)

/-- ITS FALSE NEIGHBOUR: 'it returns false'. Refute it at one input. -/
def objectUsersWrong : ChangeSpec := { name := "objectUsers", fn := fun _ => fun
  | [d] => { results := [.lit (.bool false)], args := [d] }
  | _ => none }
def ObjectUsersWrongFalsely : Prop := objectUsersRow.holds Try.pinned (OpenSpec.ofChange objectUsersWrong)

/-- 'wharfingerlaw03.ObjectBare': WHATEVER THE INPUT: true; the input reads as it did. -/
def objectBareSpec : ChangeSpec := { name := "objectBare", fn := fun _ => fun
  | [d1, d2] => { results := [.lit (.bool true)], args := [d1, d2] }
  | _ => none }
def objectBareRow : OpenClaim := { program := "ytmhnccbjnlmjpaa", sum := "d4746686118923fe325001ff4cdc85312e596ec9c731afe9006712c0655b5d66", func := "wharfinger/wharfingerlaw03.ObjectBare", spec := "objectBare", inPlace := ["internal/bytealg.IndexByteString", "internal/bytealg.IndexString", "internal/abi.NoEscape", "internal/bytealg.MakeNoZero"], unfollowed := true, recurses := true, named := ["internal/bytealg.MaxLen"], apart := false }
def ObjectBareSaid : Prop := objectBareRow.holds Try.pinned (OpenSpec.ofChange objectBareSpec)

/-- ITS FALSE NEIGHBOUR: 'it returns false'. Refute it at one input. -/
def objectBareWrong : ChangeSpec := { name := "objectBare", fn := fun _ => fun
  | [d1, d2] => { results := [.lit (.bool false)], args := [d1, d2] }
  | _ => none }
def ObjectBareWrongFalsely : Prop := objectBareRow.holds Try.pinned (OpenSpec.ofChange objectBareWrong)

/-- 'wharfingerlaw03.ObjectParts': WHATEVER THE INPUT: true; the input reads as it did. -/
def objectPartsSpec : ChangeSpec := { name := "objectParts", fn := fun _ => fun
  | [d1, d2] => { results := [.lit (.bool true)], args := [d1, d2] }
  | _ => none }
def objectPartsRow : OpenClaim := { program := "ytmhnccbjnlmjpaa", sum := "d4746686118923fe325001ff4cdc85312e596ec9c731afe9006712c0655b5d66", func := "wharfinger/wharfingerlaw03.ObjectParts", spec := "objectParts", inPlace := ["internal/bytealg.IndexByteString", "internal/bytealg.IndexString", "internal/abi.NoEscape", "internal/bytealg.MakeNoZero"], unfollowed := true, recurses := true, named := ["internal/bytealg.MaxLen"], apart := false }
def ObjectPartsSaid : Prop := objectPartsRow.holds Try.pinned (OpenSpec.ofChange objectPartsSpec)

/-- ITS FALSE NEIGHBOUR: 'it returns false'. Refute it at one input. -/
def objectPartsWrong : ChangeSpec := { name := "objectParts", fn := fun _ => fun
  | [d1, d2] => { results := [.lit (.bool false)], args := [d1, d2] }
  | _ => none }
def ObjectPartsWrongFalsely : Prop := objectPartsRow.holds Try.pinned (OpenSpec.ofChange objectPartsWrong)

/-- 'wharfingerlaw03.ObjectTwice': WHATEVER THE INPUT: true; the input reads as it did. -/
def objectTwiceSpec : ChangeSpec := { name := "objectTwice", fn := fun _ => fun
  | [d] => { results := [.lit (.bool true)], args := [d] }
  | _ => none }
def objectTwiceRow : OpenClaim := { program := "ytmhnccbjnlmjpaa", sum := "d4746686118923fe325001ff4cdc85312e596ec9c731afe9006712c0655b5d66", func := "wharfinger/wharfingerlaw03.ObjectTwice", spec := "objectTwice", inPlace := ["internal/abi.NoEscape", "internal/bytealg.MakeNoZero", "internal/bytealg.IndexByteString", "internal/bytealg.IndexString"], unfollowed := true, recurses := true, named := ["internal/bytealg.MaxLen"], apart := false }
def ObjectTwiceSaid : Prop := objectTwiceRow.holds Try.pinned (OpenSpec.ofChange objectTwiceSpec)

/-- ITS FALSE NEIGHBOUR: 'it returns false'. Refute it at one input. -/
def objectTwiceWrong : ChangeSpec := { name := "objectTwice", fn := fun _ => fun
  | [d] => { results := [.lit (.bool false)], args := [d] }
  | _ => none }
def ObjectTwiceWrongFalsely : Prop := objectTwiceRow.holds Try.pinned (OpenSpec.ofChange objectTwiceWrong)

/-- 'wharfingerlaw03.ObjectLess': WHATEVER THE INPUT: true; the input reads as it did. -/
def objectLessSpec : ChangeSpec := { name := "objectLess", fn := fun _ => fun
  | [d] => { results := [.lit (.bool true)], args := [d] }
  | _ => none }
def objectLessRow : OpenClaim := { program := "ytmhnccbjnlmjpaa", sum := "d4746686118923fe325001ff4cdc85312e596ec9c731afe9006712c0655b5d66", func := "wharfinger/wharfingerlaw03.ObjectLess", spec := "objectLess", inPlace := ["internal/bytealg.abigen_runtime_cmpstring", "internal/abi.NoEscape", "internal/bytealg.MakeNoZero", "internal/bytealg.IndexByteString", "internal/bytealg.IndexString"], unfollowed := true, recurses := true, named := ["internal/bytealg.MaxLen"], apart := false }
def ObjectLessSaid : Prop := objectLessRow.holds Try.pinned (OpenSpec.ofChange objectLessSpec)

/-- ITS FALSE NEIGHBOUR: 'it returns false'. Refute it at one input. -/
def objectLessWrong : ChangeSpec := { name := "objectLess", fn := fun _ => fun
  | [d] => { results := [.lit (.bool false)], args := [d] }
  | _ => none }
def ObjectLessWrongFalsely : Prop := objectLessRow.holds Try.pinned (OpenSpec.ofChange objectLessWrong)

/- THE SECOND FORM. 'bulk': how many values and letters a reading holds, each counted each time it is reached (what is shared counts as often as it is met; a slice's spare places count too). A statement '..UptoSaid' is the law's where the arguments, and the package variables that the reading takes, are together of bulk at most 1048576: NARROWER than '..Said'. Prove '..Said' where nothing that the law and all that it calls make is longer than what came in: it says more and counts as full. Else prove '..UptoSaid'. A law counts once. -/
mutual
def uptoBulk {H : Type} : DataW H → Nat
  | .lit (.string bytes) => bytes.length + 1
  | .lit _ => 1
  | .nil => 1
  | .ptr d => uptoBulk d + 1
  | .slice elems spare => uptoBulkAll elems + uptoBulkAll spare + 1
  | .agg parts => uptoBulkAll parts + 1
  | .iface _ d => uptoBulk d + 1
  | .map entries => uptoBulkEntries entries + 1
  | .held _ => 1
def uptoBulkAll {H : Type} : List (DataW H) → Nat
  | [] => 0
  | d :: r => uptoBulk d + uptoBulkAll r
def uptoBulkEntries {H : Type} : List (Lit × DataW H) → Nat
  | [] => 0
  | x :: r => uptoBulkEntry x + uptoBulkEntries r
def uptoBulkEntry {H : Type} : Lit × DataW H → Nat
  | (.string bytes, d) => bytes.length + uptoBulk d + 1
  | (_, d) => uptoBulk d + 1
 end
def uptoSmall : (H : Type) → List (DataW H) → Bool := fun _ ds => decide (uptoBulkAll ds ≤ 1048576)
def OpenSpec.upto (s : _root_.Go.ChangeSpec) : _root_.Go.OpenSpec := { _root_.Go.OpenSpec.ofChange s with cond := some uptoSmall }

/-- 'wharfingerlaw03.ObjectRights', WHERE WHAT IT READS IS OF BULK AT MOST 1048576: true; the input reads as it did. -/
def objectRightsUptoRow : OpenClaim := { program := "ytmhnccbjnlmjpaa", sum := "d4746686118923fe325001ff4cdc85312e596ec9c731afe9006712c0655b5d66", func := "wharfinger/wharfingerlaw03.ObjectRights", spec := "objectRights", inPlace := ["internal/abi.NoEscape", "internal/bytealg.MakeNoZero", "internal/bytealg.IndexByteString", "internal/bytealg.IndexString"], unfollowed := true, recurses := true, named := ["internal/bytealg.MaxLen"], apart := false, narrowed := true }
def ObjectRightsUptoSaid : Prop := objectRightsUptoRow.holds Try.pinned (OpenSpec.upto objectRightsSpec)

/-- 'wharfingerlaw03.ObjectNames', WHERE WHAT IT READS IS OF BULK AT MOST 1048576: true; the input reads as it did. -/
def objectNamesUptoRow : OpenClaim := { program := "ytmhnccbjnlmjpaa", sum := "d4746686118923fe325001ff4cdc85312e596ec9c731afe9006712c0655b5d66", func := "wharfinger/wharfingerlaw03.ObjectNames", spec := "objectNames", inPlace := ["internal/abi.NoEscape", "internal/bytealg.MakeNoZero", "internal/bytealg.IndexByteString", "internal/bytealg.IndexString"], unfollowed := true, recurses := true, named := ["internal/bytealg.MaxLen"], apart := false, narrowed := true }
def ObjectNamesUptoSaid : Prop := objectNamesUptoRow.holds Try.pinned (OpenSpec.upto objectNamesSpec)

/-- 'wharfingerlaw03.ObjectUsers', WHERE WHAT IT READS IS OF BULK AT MOST 1048576: true; the input reads as it did. -/
def objectUsersUptoRow : OpenClaim := { program := "ytmhnccbjnlmjpaa", sum := "d4746686118923fe325001ff4cdc85312e596ec9c731afe9006712c0655b5d66", func := "wharfinger/wharfingerlaw03.ObjectUsers", spec := "objectUsers", inPlace := ["internal/bytealg.IndexByteString", "internal/bytealg.IndexString", "internal/abi.NoEscape", "internal/bytealg.MakeNoZero"], unfollowed := true, recurses := true, named := ["internal/bytealg.MaxLen"], apart := false, narrowed := true }
def ObjectUsersUptoSaid : Prop := objectUsersUptoRow.holds Try.pinned (OpenSpec.upto objectUsersSpec)

/-- 'wharfingerlaw03.ObjectBare', WHERE WHAT IT READS IS OF BULK AT MOST 1048576: true; the input reads as it did. -/
def objectBareUptoRow : OpenClaim := { program := "ytmhnccbjnlmjpaa", sum := "d4746686118923fe325001ff4cdc85312e596ec9c731afe9006712c0655b5d66", func := "wharfinger/wharfingerlaw03.ObjectBare", spec := "objectBare", inPlace := ["internal/bytealg.IndexByteString", "internal/bytealg.IndexString", "internal/abi.NoEscape", "internal/bytealg.MakeNoZero"], unfollowed := true, recurses := true, named := ["internal/bytealg.MaxLen"], apart := false, narrowed := true }
def ObjectBareUptoSaid : Prop := objectBareUptoRow.holds Try.pinned (OpenSpec.upto objectBareSpec)

/-- 'wharfingerlaw03.ObjectParts', WHERE WHAT IT READS IS OF BULK AT MOST 1048576: true; the input reads as it did. -/
def objectPartsUptoRow : OpenClaim := { program := "ytmhnccbjnlmjpaa", sum := "d4746686118923fe325001ff4cdc85312e596ec9c731afe9006712c0655b5d66", func := "wharfinger/wharfingerlaw03.ObjectParts", spec := "objectParts", inPlace := ["internal/bytealg.IndexByteString", "internal/bytealg.IndexString", "internal/abi.NoEscape", "internal/bytealg.MakeNoZero"], unfollowed := true, recurses := true, named := ["internal/bytealg.MaxLen"], apart := false, narrowed := true }
def ObjectPartsUptoSaid : Prop := objectPartsUptoRow.holds Try.pinned (OpenSpec.upto objectPartsSpec)

/-- 'wharfingerlaw03.ObjectTwice', WHERE WHAT IT READS IS OF BULK AT MOST 1048576: true; the input reads as it did. -/
def objectTwiceUptoRow : OpenClaim := { program := "ytmhnccbjnlmjpaa", sum := "d4746686118923fe325001ff4cdc85312e596ec9c731afe9006712c0655b5d66", func := "wharfinger/wharfingerlaw03.ObjectTwice", spec := "objectTwice", inPlace := ["internal/abi.NoEscape", "internal/bytealg.MakeNoZero", "internal/bytealg.IndexByteString", "internal/bytealg.IndexString"], unfollowed := true, recurses := true, named := ["internal/bytealg.MaxLen"], apart := false, narrowed := true }
def ObjectTwiceUptoSaid : Prop := objectTwiceUptoRow.holds Try.pinned (OpenSpec.upto objectTwiceSpec)

/-- 'wharfingerlaw03.ObjectLess', WHERE WHAT IT READS IS OF BULK AT MOST 1048576: true; the input reads as it did. -/
def objectLessUptoRow : OpenClaim := { program := "ytmhnccbjnlmjpaa", sum := "d4746686118923fe325001ff4cdc85312e596ec9c731afe9006712c0655b5d66", func := "wharfinger/wharfingerlaw03.ObjectLess", spec := "objectLess", inPlace := ["internal/bytealg.abigen_runtime_cmpstring", "internal/abi.NoEscape", "internal/bytealg.MakeNoZero", "internal/bytealg.IndexByteString", "internal/bytealg.IndexString"], unfollowed := true, recurses := true, named := ["internal/bytealg.MaxLen"], apart := false, narrowed := true }
def ObjectLessUptoSaid : Prop := objectLessUptoRow.holds Try.pinned (OpenSpec.upto objectLessSpec)

end Rows
end Go.Proofs.Ytmhnccbjnlmjpaa

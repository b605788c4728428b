/-
  No cell of these rows narrows 'for every input' (looked for: loops, veiled, ifaces, maps, wideKeys, modest, calm, conditions, laid).
  DERIVED. THE GIVEN ROWS OF THIS SEAT. 11 by the template 'for every input the law returns true; each argument reads behind the call as it read before'; 0 by the template 'total and deterministic' (their statements: YtpclhiookajiiaaGreatTotals.lean).
  GIVEN WITH THE SEED: the statements are not yours to turn. If you find one false, say at which input.
  Laid BY PROGRAM, IN A SANDBOX (cutbox-rows.mjs): the forced cells as the released guide's own fill.sh prints them over the translation 6f2feebc33a34b89… (all of the seat's roots in one cut). By AI agents, Wed Nov 11 2026. No macro, syntax, notation, axiom, sorry.
-/
import Derived.Test.YtpclhiookajiiaaGreatChecked
import GoSem.Claim
import GoSem.ClaimJoined
import GoSem.ClaimMapViews
import Derived.JoinedTies
import Derived.KernelRfl
namespace Go.Proofs.YtpclhiookajiiaaGreat
/- THE CELL 'sum', in the pinned program and in every row, IS THE sha256 OF THE DUMP (.gsa) THAT YtpclhiookajiiaaGreatProg.lean LOADS. Nothing in Lean hashes anything: it is a label: what it is worth is what the hold of that sum in a sandbox is worth. -/
noncomputable def Tryz.pinned : Pinned := { name := "ytpclhiookajiiaagreat", sum := "6f2feebc33a34b8949dd4536d5edb38bda41303372e7a4a1812236ac9e6cae4c", checked := Tryz.checked }
namespace Rows
def none {H : Type} : Left H := { results := [], args := [] }

/-- 'wharfingerlaw06.StoreConflicts': WHATEVER THE INPUT: true; the input reads as it did. -/
def storeConflictsSpec : ChangeSpec := { name := "storeConflicts", fn := fun _ => fun
  | [d1, d2, d3] => { results := [.lit (.bool true)], args := [d1, d2, d3] }
  | _ => none }
def storeConflictsRow : OpenClaim := { program := "ytpclhiookajiiaagreat", sum := "6f2feebc33a34b8949dd4536d5edb38bda41303372e7a4a1812236ac9e6cae4c", func := "wharfinger/wharfingerlaw06.StoreConflicts", spec := "storeConflicts", inPlace := ["internal/bytealg.IndexByteString", "internal/bytealg.IndexString", "internal/abi.NoEscape", "internal/bytealg.MakeNoZero"], unfollowed := true, recurses := true, named := ["internal/bytealg.MaxLen"], plainKeys := false, apart := false }
def StoreConflictsSaid : Prop := storeConflictsRow.holds Tryz.pinned (OpenSpec.ofChange storeConflictsSpec)

/-- ITS FALSE NEIGHBOUR: 'it returns false'. Refute it at one input. -/
def storeConflictsWrong : ChangeSpec := { name := "storeConflicts", fn := fun _ => fun
  | [d1, d2, d3] => { results := [.lit (.bool false)], args := [d1, d2, d3] }
  | _ => none }
def StoreConflictsWrongFalsely : Prop := storeConflictsRow.holds Tryz.pinned (OpenSpec.ofChange storeConflictsWrong)

/-- 'wharfingerlaw06.StoreDeletes': WHATEVER THE INPUT: true; the input reads as it did. -/
def storeDeletesSpec : ChangeSpec := { name := "storeDeletes", fn := fun _ => fun
  | [d1, d2] => { results := [.lit (.bool true)], args := [d1, d2] }
  | _ => none }
def storeDeletesRow : OpenClaim := { program := "ytpclhiookajiiaagreat", sum := "6f2feebc33a34b8949dd4536d5edb38bda41303372e7a4a1812236ac9e6cae4c", func := "wharfinger/wharfingerlaw06.StoreDeletes", spec := "storeDeletes", inPlace := ["internal/bytealg.IndexByteString", "internal/bytealg.IndexString", "internal/abi.NoEscape", "internal/bytealg.MakeNoZero"], unfollowed := true, recurses := true, named := ["internal/bytealg.MaxLen"], plainKeys := false, apart := false }
def StoreDeletesSaid : Prop := storeDeletesRow.holds Tryz.pinned (OpenSpec.ofChange storeDeletesSpec)

/-- ITS FALSE NEIGHBOUR: 'it returns false'. Refute it at one input. -/
def storeDeletesWrong : ChangeSpec := { name := "storeDeletes", fn := fun _ => fun
  | [d1, d2] => { results := [.lit (.bool false)], args := [d1, d2] }
  | _ => none }
def StoreDeletesWrongFalsely : Prop := storeDeletesRow.holds Tryz.pinned (OpenSpec.ofChange storeDeletesWrong)

/-- 'wharfingerlaw06.StoreRaw': WHATEVER THE INPUT: true; the input reads as it did. -/
def storeRawSpec : ChangeSpec := { name := "storeRaw", fn := fun _ => fun
  | [d] => { results := [.lit (.bool true)], args := [d] }
  | _ => none }
def storeRawRow : OpenClaim := { program := "ytpclhiookajiiaagreat", sum := "6f2feebc33a34b8949dd4536d5edb38bda41303372e7a4a1812236ac9e6cae4c", func := "wharfinger/wharfingerlaw06.StoreRaw", spec := "storeRaw", inPlace := ["internal/bytealg.IndexByteString", "internal/bytealg.IndexString", "internal/abi.NoEscape", "internal/bytealg.MakeNoZero", "internal/bytealg.abigen_runtime_cmpstring"], unfollowed := true, recurses := true, named := ["internal/bytealg.MaxLen"], plainKeys := false, apart := false }
def StoreRawSaid : Prop := storeRawRow.holds Tryz.pinned (OpenSpec.ofChange storeRawSpec)

/-- ITS FALSE NEIGHBOUR: 'it returns false'. Refute it at one input. -/
def storeRawWrong : ChangeSpec := { name := "storeRaw", fn := fun _ => fun
  | [d] => { results := [.lit (.bool false)], args := [d] }
  | _ => none }
def StoreRawWrongFalsely : Prop := storeRawRow.holds Tryz.pinned (OpenSpec.ofChange storeRawWrong)

/-- 'wharfingerlaw06.StoreVersions': WHATEVER THE INPUT: true; the input reads as it did. -/
def storeVersionsSpec : ChangeSpec := { name := "storeVersions", fn := fun _ => fun
  | [d] => { results := [.lit (.bool true)], args := [d] }
  | _ => none }
def storeVersionsRow : OpenClaim := { program := "ytpclhiookajiiaagreat", sum := "6f2feebc33a34b8949dd4536d5edb38bda41303372e7a4a1812236ac9e6cae4c", func := "wharfinger/wharfingerlaw06.StoreVersions", spec := "storeVersions", inPlace := ["internal/bytealg.IndexByteString", "internal/bytealg.IndexString", "internal/abi.NoEscape", "internal/bytealg.MakeNoZero", "internal/bytealg.abigen_runtime_cmpstring"], unfollowed := true, recurses := true, named := ["internal/bytealg.MaxLen"], plainKeys := false, apart := false }
def StoreVersionsSaid : Prop := storeVersionsRow.holds Tryz.pinned (OpenSpec.ofChange storeVersionsSpec)

/-- ITS FALSE NEIGHBOUR: 'it returns false'. Refute it at one input. -/
def storeVersionsWrong : ChangeSpec := { name := "storeVersions", fn := fun _ => fun
  | [d] => { results := [.lit (.bool false)], args := [d] }
  | _ => none }
def StoreVersionsWrongFalsely : Prop := storeVersionsRow.holds Tryz.pinned (OpenSpec.ofChange storeVersionsWrong)

/-- 'wharfingerlaw06.StoreFollows': WHATEVER THE INPUT: true; the input reads as it did. -/
def storeFollowsSpec : ChangeSpec := { name := "storeFollows", fn := fun _ => fun
  | [d1, d2] => { results := [.lit (.bool true)], args := [d1, d2] }
  | _ => none }
def storeFollowsRow : OpenClaim := { program := "ytpclhiookajiiaagreat", sum := "6f2feebc33a34b8949dd4536d5edb38bda41303372e7a4a1812236ac9e6cae4c", func := "wharfinger/wharfingerlaw06.StoreFollows", spec := "storeFollows", inPlace := ["internal/bytealg.IndexByteString", "internal/bytealg.IndexString", "internal/abi.NoEscape", "internal/bytealg.MakeNoZero", "internal/bytealg.abigen_runtime_cmpstring"], unfollowed := true, recurses := true, named := ["internal/bytealg.MaxLen"], plainKeys := false, apart := false }
def StoreFollowsSaid : Prop := storeFollowsRow.holds Tryz.pinned (OpenSpec.ofChange storeFollowsSpec)

/-- ITS FALSE NEIGHBOUR: 'it returns false'. Refute it at one input. -/
def storeFollowsWrong : ChangeSpec := { name := "storeFollows", fn := fun _ => fun
  | [d1, d2] => { results := [.lit (.bool false)], args := [d1, d2] }
  | _ => none }
def StoreFollowsWrongFalsely : Prop := storeFollowsRow.holds Tryz.pinned (OpenSpec.ofChange storeFollowsWrong)

/-- 'wharfingerlaw06.StoreOpens': WHATEVER THE INPUT: true; the input reads as it did. -/
def storeOpensSpec : ChangeSpec := { name := "storeOpens", fn := fun _ => fun
  | [d1, d2] => { results := [.lit (.bool true)], args := [d1, d2] }
  | _ => none }
def storeOpensRow : OpenClaim := { program := "ytpclhiookajiiaagreat", sum := "6f2feebc33a34b8949dd4536d5edb38bda41303372e7a4a1812236ac9e6cae4c", func := "wharfinger/wharfingerlaw06.StoreOpens", spec := "storeOpens", inPlace := ["internal/bytealg.IndexByteString", "internal/bytealg.IndexString", "internal/abi.NoEscape", "internal/bytealg.MakeNoZero", "internal/bytealg.abigen_runtime_cmpstring"], unfollowed := true, recurses := true, named := ["internal/bytealg.MaxLen"], plainKeys := false, apart := false }
def StoreOpensSaid : Prop := storeOpensRow.holds Tryz.pinned (OpenSpec.ofChange storeOpensSpec)

/-- ITS FALSE NEIGHBOUR: 'it returns false'. Refute it at one input. -/
def storeOpensWrong : ChangeSpec := { name := "storeOpens", fn := fun _ => fun
  | [d1, d2] => { results := [.lit (.bool false)], args := [d1, d2] }
  | _ => none }
def StoreOpensWrongFalsely : Prop := storeOpensRow.holds Tryz.pinned (OpenSpec.ofChange storeOpensWrong)

/-- 'wharfingerlaw06.StoreCrashes': WHATEVER THE INPUT: true; the input reads as it did. -/
def storeCrashesSpec : ChangeSpec := { name := "storeCrashes", fn := fun _ => fun
  | [d1, d2] => { results := [.lit (.bool true)], args := [d1, d2] }
  | _ => none }
def storeCrashesRow : OpenClaim := { program := "ytpclhiookajiiaagreat", sum := "6f2feebc33a34b8949dd4536d5edb38bda41303372e7a4a1812236ac9e6cae4c", func := "wharfinger/wharfingerlaw06.StoreCrashes", spec := "storeCrashes", inPlace := ["internal/bytealg.IndexByteString", "internal/bytealg.IndexString", "internal/abi.NoEscape", "internal/bytealg.MakeNoZero", "internal/bytealg.abigen_runtime_cmpstring"], unfollowed := true, recurses := true, named := ["internal/bytealg.MaxLen"], plainKeys := false, apart := false }
def StoreCrashesSaid : Prop := storeCrashesRow.holds Tryz.pinned (OpenSpec.ofChange storeCrashesSpec)

/-- ITS FALSE NEIGHBOUR: 'it returns false'. Refute it at one input. -/
def storeCrashesWrong : ChangeSpec := { name := "storeCrashes", fn := fun _ => fun
  | [d1, d2] => { results := [.lit (.bool false)], args := [d1, d2] }
  | _ => none }
def StoreCrashesWrongFalsely : Prop := storeCrashesRow.holds Tryz.pinned (OpenSpec.ofChange storeCrashesWrong)

/-- 'wharfingerlaw06.StorePlays': WHATEVER THE INPUT: true; the input reads as it did. -/
def storePlaysSpec : ChangeSpec := { name := "storePlays", fn := fun _ => fun
  | [d1, d2, d3] => { results := [.lit (.bool true)], args := [d1, d2, d3] }
  | _ => none }
def storePlaysRow : OpenClaim := { program := "ytpclhiookajiiaagreat", sum := "6f2feebc33a34b8949dd4536d5edb38bda41303372e7a4a1812236ac9e6cae4c", func := "wharfinger/wharfingerlaw06.StorePlays", spec := "storePlays", inPlace := ["internal/bytealg.IndexByteString", "internal/bytealg.IndexString", "internal/abi.NoEscape", "internal/bytealg.MakeNoZero", "internal/bytealg.abigen_runtime_cmpstring"], unfollowed := true, recurses := true, named := ["internal/bytealg.MaxLen"], plainKeys := false, apart := false }
def StorePlaysSaid : Prop := storePlaysRow.holds Tryz.pinned (OpenSpec.ofChange storePlaysSpec)

/-- ITS FALSE NEIGHBOUR: 'it returns false'. Refute it at one input. -/
def storePlaysWrong : ChangeSpec := { name := "storePlays", fn := fun _ => fun
  | [d1, d2, d3] => { results := [.lit (.bool false)], args := [d1, d2, d3] }
  | _ => none }
def StorePlaysWrongFalsely : Prop := storePlaysRow.holds Tryz.pinned (OpenSpec.ofChange storePlaysWrong)

/-- 'wharfingerlaw06.StoreNone': WHATEVER THE INPUT: true; the input reads as it did. -/
def storeNoneSpec : ChangeSpec := { name := "storeNone", fn := fun _ => fun
  | [d1, d2] => { results := [.lit (.bool true)], args := [d1, d2] }
  | _ => none }
def storeNoneRow : OpenClaim := { program := "ytpclhiookajiiaagreat", sum := "6f2feebc33a34b8949dd4536d5edb38bda41303372e7a4a1812236ac9e6cae4c", func := "wharfinger/wharfingerlaw06.StoreNone", spec := "storeNone", inPlace := ["internal/bytealg.IndexByteString", "internal/bytealg.IndexString", "internal/abi.NoEscape", "internal/bytealg.MakeNoZero", "internal/bytealg.abigen_runtime_cmpstring"], unfollowed := true, recurses := true, named := ["internal/bytealg.MaxLen"], plainKeys := false, apart := false }
def StoreNoneSaid : Prop := storeNoneRow.holds Tryz.pinned (OpenSpec.ofChange storeNoneSpec)

/-- ITS FALSE NEIGHBOUR: 'it returns false'. Refute it at one input. -/
def storeNoneWrong : ChangeSpec := { name := "storeNone", fn := fun _ => fun
  | [d1, d2] => { results := [.lit (.bool false)], args := [d1, d2] }
  | _ => none }
def StoreNoneWrongFalsely : Prop := storeNoneRow.holds Tryz.pinned (OpenSpec.ofChange storeNoneWrong)

/-- 'wharfingerlaw06.StoreForks': WHATEVER THE INPUT: true; the input reads as it did. -/
def storeForksSpec : ChangeSpec := { name := "storeForks", fn := fun _ => fun
  | [d1, d2] => { results := [.lit (.bool true)], args := [d1, d2] }
  | _ => none }
def storeForksRow : OpenClaim := { program := "ytpclhiookajiiaagreat", sum := "6f2feebc33a34b8949dd4536d5edb38bda41303372e7a4a1812236ac9e6cae4c", func := "wharfinger/wharfingerlaw06.StoreForks", spec := "storeForks", inPlace := ["internal/bytealg.IndexByteString", "internal/bytealg.IndexString", "internal/abi.NoEscape", "internal/bytealg.MakeNoZero", "internal/bytealg.abigen_runtime_cmpstring"], unfollowed := true, recurses := true, named := ["internal/bytealg.MaxLen"], plainKeys := false, apart := false }
def StoreForksSaid : Prop := storeForksRow.holds Tryz.pinned (OpenSpec.ofChange storeForksSpec)

/-- ITS FALSE NEIGHBOUR: 'it returns false'. Refute it at one input. -/
def storeForksWrong : ChangeSpec := { name := "storeForks", fn := fun _ => fun
  | [d1, d2] => { results := [.lit (.bool false)], args := [d1, d2] }
  | _ => none }
def StoreForksWrongFalsely : Prop := storeForksRow.holds Tryz.pinned (OpenSpec.ofChange storeForksWrong)

/-- 'wharfingertop.TopSeen': WHATEVER THE INPUT: true; the input reads as it did. -/
def topSeenSpec : ChangeSpec := { name := "topSeen", fn := fun _ => fun
  | [d1, d2] => { results := [.lit (.bool true)], args := [d1, d2] }
  | _ => none }
def topSeenRow : OpenClaim := { program := "ytpclhiookajiiaagreat", sum := "6f2feebc33a34b8949dd4536d5edb38bda41303372e7a4a1812236ac9e6cae4c", func := "wharfinger/wharfingertop.TopSeen", spec := "topSeen", inPlace := ["internal/bytealg.IndexByteString", "internal/bytealg.IndexString", "internal/abi.NoEscape", "internal/bytealg.MakeNoZero", "internal/bytealg.abigen_runtime_cmpstring"], unfollowed := true, recurses := true, named := ["internal/bytealg.MaxLen"], plainKeys := false, apart := false }
def TopSeenSaid : Prop := topSeenRow.holds Tryz.pinned (OpenSpec.ofChange topSeenSpec)

/-- ITS FALSE NEIGHBOUR: 'it returns false'. Refute it at one input. -/
def topSeenWrong : ChangeSpec := { name := "topSeen", fn := fun _ => fun
  | [d1, d2] => { results := [.lit (.bool false)], args := [d1, d2] }
  | _ => none }
def TopSeenWrongFalsely : Prop := topSeenRow.holds Tryz.pinned (OpenSpec.ofChange topSeenWrong)

/- THE SECOND FORM. 'bulk': how many values and letters a reading holds, each counted each time it is reached (what is shared counts as often as it is met; a slice's spare places count too). A statement '..UptoSaid' is the law's where the arguments, and the package variables that the reading takes, are together of bulk at most 1048576: NARROWER than '..Said'. Prove '..Said' where nothing that the law and all that it calls make is longer than what came in: it says more and counts as full. Else prove '..UptoSaid'. A law counts once. -/
mutual
def uptoBulk {H : Type} : DataW H → Nat
  | .lit (.string bytes) => bytes.length + 1
  | .lit _ => 1
  | .nil => 1
  | .ptr d => uptoBulk d + 1
  | .slice elems spare => uptoBulkAll elems + uptoBulkAll spare + 1
  | .agg parts => uptoBulkAll parts + 1
  | .iface _ d => uptoBulk d + 1
  | .map entries => uptoBulkEntries entries + 1
  | .held _ => 1
def uptoBulkAll {H : Type} : List (DataW H) → Nat
  | [] => 0
  | d :: r => uptoBulk d + uptoBulkAll r
def uptoBulkEntries {H : Type} : List (Lit × DataW H) → Nat
  | [] => 0
  | x :: r => uptoBulkEntry x + uptoBulkEntries r
def uptoBulkEntry {H : Type} : Lit × DataW H → Nat
  | (.string bytes, d) => bytes.length + uptoBulk d + 1
  | (_, d) => uptoBulk d + 1
 end
def uptoSmall : (H : Type) → List (DataW H) → Bool := fun _ ds => decide (uptoBulkAll ds ≤ 1048576)
def OpenSpec.upto (s : _root_.Go.ChangeSpec) : _root_.Go.OpenSpec := { _root_.Go.OpenSpec.ofChange s with cond := some uptoSmall }

/-- 'wharfingerlaw06.StoreConflicts', WHERE WHAT IT READS IS OF BULK AT MOST 1048576: true; the input reads as it did. -/
def storeConflictsUptoRow : OpenClaim := { program := "ytpclhiookajiiaagreat", sum := "6f2feebc33a34b8949dd4536d5edb38bda41303372e7a4a1812236ac9e6cae4c", func := "wharfinger/wharfingerlaw06.StoreConflicts", spec := "storeConflicts", inPlace := ["internal/bytealg.IndexByteString", "internal/bytealg.IndexString", "internal/abi.NoEscape", "internal/bytealg.MakeNoZero"], unfollowed := true, recurses := true, named := ["internal/bytealg.MaxLen"], plainKeys := false, apart := false, narrowed := true }
def StoreConflictsUptoSaid : Prop := storeConflictsUptoRow.holds Tryz.pinned (OpenSpec.upto storeConflictsSpec)

/-- 'wharfingerlaw06.StoreDeletes', WHERE WHAT IT READS IS OF BULK AT MOST 1048576: true; the input reads as it did. -/
def storeDeletesUptoRow : OpenClaim := { program := "ytpclhiookajiiaagreat", sum := "6f2feebc33a34b8949dd4536d5edb38bda41303372e7a4a1812236ac9e6cae4c", func := "wharfinger/wharfingerlaw06.StoreDeletes", spec := "storeDeletes", inPlace := ["internal/bytealg.IndexByteString", "internal/bytealg.IndexString", "internal/abi.NoEscape", "internal/bytealg.MakeNoZero"], unfollowed := true, recurses := true, named := ["internal/bytealg.MaxLen"], plainKeys := false, apart := false, narrowed := true }
def StoreDeletesUptoSaid : Prop := storeDeletesUptoRow.holds Tryz.pinned (OpenSpec.upto storeDeletesSpec)

/-- 'wharfingerlaw06.StoreRaw', WHERE WHAT IT READS IS OF BULK AT MOST 1048576: true; the input reads as it did. -/
def storeRawUptoRow : OpenClaim := { program := "ytpclhiookajiiaagreat", sum := "6f2feebc33a34b8949dd4536d5edb38bda41303372e7a4a1812236ac9e6cae4c", func := "wharfinger/wharfingerlaw06.StoreRaw", spec := "storeRaw", inPlace := ["internal/bytealg.IndexByteString", "internal/bytealg.IndexString", "internal/abi.NoEscape", "internal/bytealg.MakeNoZero", "internal/bytealg.abigen_runtime_cmpstring"], unfollowed := true, recurses := true, named := ["internal/bytealg.MaxLen"], plainKeys := false, apart := false, narrowed := true }
def StoreRawUptoSaid : Prop := storeRawUptoRow.holds Tryz.pinned (OpenSpec.upto storeRawSpec)

/-- 'wharfingerlaw06.StoreVersions', WHERE WHAT IT READS IS OF BULK AT MOST 1048576: true; the input reads as it did. -/
def storeVersionsUptoRow : OpenClaim := { program := "ytpclhiookajiiaagreat", sum := "6f2feebc33a34b8949dd4536d5edb38bda41303372e7a4a1812236ac9e6cae4c", func := "wharfinger/wharfingerlaw06.StoreVersions", spec := "storeVersions", inPlace := ["internal/bytealg.IndexByteString", "internal/bytealg.IndexString", "internal/abi.NoEscape", "internal/bytealg.MakeNoZero", "internal/bytealg.abigen_runtime_cmpstring"], unfollowed := true, recurses := true, named := ["internal/bytealg.MaxLen"], plainKeys := false, apart := false, narrowed := true }
def StoreVersionsUptoSaid : Prop := storeVersionsUptoRow.holds Tryz.pinned (OpenSpec.upto storeVersionsSpec)

/-- 'wharfingerlaw06.StoreFollows', WHERE WHAT IT READS IS OF BULK AT MOST 1048576: true; the input reads as it did. -/
def storeFollowsUptoRow : OpenClaim := { program := "ytpclhiookajiiaagreat", sum := "6f2feebc33a34b8949dd4536d5edb38bda41303372e7a4a1812236ac9e6cae4c", func := "wharfinger/wharfingerlaw06.StoreFollows", spec := "storeFollows", inPlace := ["internal/bytealg.IndexByteString", "internal/bytealg.IndexString", "internal/abi.NoEscape", "internal/bytealg.MakeNoZero", "internal/bytealg.abigen_runtime_cmpstring"], unfollowed := true, recurses := true, named := ["internal/bytealg.MaxLen"], plainKeys := false, apart := false, narrowed := true }
def StoreFollowsUptoSaid : Prop := storeFollowsUptoRow.holds Tryz.pinned (OpenSpec.upto storeFollowsSpec)

/-- 'wharfingerlaw06.StoreOpens', WHERE WHAT IT READS IS OF BULK AT MOST 1048576: true; the input reads as it did. -/
def storeOpensUptoRow : OpenClaim := { program := "ytpclhiookajiiaagreat", sum := "6f2feebc33a34b8949dd4536d5edb38bda41303372e7a4a1812236ac9e6cae4c", func := "wharfinger/wharfingerlaw06.StoreOpens", spec := "storeOpens", inPlace := ["internal/bytealg.IndexByteString", "internal/bytealg.IndexString", "internal/abi.NoEscape", "internal/bytealg.MakeNoZero", "internal/bytealg.abigen_runtime_cmpstring"], unfollowed := true, recurses := true, named := ["internal/bytealg.MaxLen"], plainKeys := false, apart := false, narrowed := true }
def StoreOpensUptoSaid : Prop := storeOpensUptoRow.holds Tryz.pinned (OpenSpec.upto storeOpensSpec)

/-- 'wharfingerlaw06.StoreCrashes', WHERE WHAT IT READS IS OF BULK AT MOST 1048576: true; the input reads as it did. -/
def storeCrashesUptoRow : OpenClaim := { program := "ytpclhiookajiiaagreat", sum := "6f2feebc33a34b8949dd4536d5edb38bda41303372e7a4a1812236ac9e6cae4c", func := "wharfinger/wharfingerlaw06.StoreCrashes", spec := "storeCrashes", inPlace := ["internal/bytealg.IndexByteString", "internal/bytealg.IndexString", "internal/abi.NoEscape", "internal/bytealg.MakeNoZero", "internal/bytealg.abigen_runtime_cmpstring"], unfollowed := true, recurses := true, named := ["internal/bytealg.MaxLen"], plainKeys := false, apart := false, narrowed := true }
def StoreCrashesUptoSaid : Prop := storeCrashesUptoRow.holds Tryz.pinned (OpenSpec.upto storeCrashesSpec)

/-- 'wharfingerlaw06.StorePlays', WHERE WHAT IT READS IS OF BULK AT MOST 1048576: true; the input reads as it did. -/
def storePlaysUptoRow : OpenClaim := { program := "ytpclhiookajiiaagreat", sum := "6f2feebc33a34b8949dd4536d5edb38bda41303372e7a4a1812236ac9e6cae4c", func := "wharfinger/wharfingerlaw06.StorePlays", spec := "storePlays", inPlace := ["internal/bytealg.IndexByteString", "internal/bytealg.IndexString", "internal/abi.NoEscape", "internal/bytealg.MakeNoZero", "internal/bytealg.abigen_runtime_cmpstring"], unfollowed := true, recurses := true, named := ["internal/bytealg.MaxLen"], plainKeys := false, apart := false, narrowed := true }
def StorePlaysUptoSaid : Prop := storePlaysUptoRow.holds Tryz.pinned (OpenSpec.upto storePlaysSpec)

/-- 'wharfingerlaw06.StoreNone', WHERE WHAT IT READS IS OF BULK AT MOST 1048576: true; the input reads as it did. -/
def storeNoneUptoRow : OpenClaim := { program := "ytpclhiookajiiaagreat", sum := "6f2feebc33a34b8949dd4536d5edb38bda41303372e7a4a1812236ac9e6cae4c", func := "wharfinger/wharfingerlaw06.StoreNone", spec := "storeNone", inPlace := ["internal/bytealg.IndexByteString", "internal/bytealg.IndexString", "internal/abi.NoEscape", "internal/bytealg.MakeNoZero", "internal/bytealg.abigen_runtime_cmpstring"], unfollowed := true, recurses := true, named := ["internal/bytealg.MaxLen"], plainKeys := false, apart := false, narrowed := true }
def StoreNoneUptoSaid : Prop := storeNoneUptoRow.holds Tryz.pinned (OpenSpec.upto storeNoneSpec)

/-- 'wharfingerlaw06.StoreForks', WHERE WHAT IT READS IS OF BULK AT MOST 1048576: true; the input reads as it did. -/
def storeForksUptoRow : OpenClaim := { program := "ytpclhiookajiiaagreat", sum := "6f2feebc33a34b8949dd4536d5edb38bda41303372e7a4a1812236ac9e6cae4c", func := "wharfinger/wharfingerlaw06.StoreForks", spec := "storeForks", inPlace := ["internal/bytealg.IndexByteString", "internal/bytealg.IndexString", "internal/abi.NoEscape", "internal/bytealg.MakeNoZero", "internal/bytealg.abigen_runtime_cmpstring"], unfollowed := true, recurses := true, named := ["internal/bytealg.MaxLen"], plainKeys := false, apart := false, narrowed := true }
def StoreForksUptoSaid : Prop := storeForksUptoRow.holds Tryz.pinned (OpenSpec.upto storeForksSpec)

/-- 'wharfingertop.TopSeen', WHERE WHAT IT READS IS OF BULK AT MOST 1048576: true; the input reads as it did. -/
def topSeenUptoRow : OpenClaim := { program := "ytpclhiookajiiaagreat", sum := "6f2feebc33a34b8949dd4536d5edb38bda41303372e7a4a1812236ac9e6cae4c", func := "wharfinger/wharfingertop.TopSeen", spec := "topSeen", inPlace := ["internal/bytealg.IndexByteString", "internal/bytealg.IndexString", "internal/abi.NoEscape", "internal/bytealg.MakeNoZero", "internal/bytealg.abigen_runtime_cmpstring"], unfollowed := true, recurses := true, named := ["internal/bytealg.MaxLen"], plainKeys := false, apart := false, narrowed := true }
def TopSeenUptoSaid : Prop := topSeenUptoRow.holds Tryz.pinned (OpenSpec.upto topSeenSpec)

end Rows
end Go.Proofs.YtpclhiookajiiaaGreat

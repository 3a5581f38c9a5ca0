/-
  No cell of these rows narrows 'for every input' (looked for: loops, veiled, ifaces, maps, wideKeys, modest, calm, conditions, laid).
  DERIVED. THE GIVEN ROWS OF THIS SEAT. 12 by the template 'for every input the law returns true; each argument reads behind the call as it read before'; 0 by the template 'total and deterministic' (their statements: YtjaolkfjpnpglaaTotals.lean).
  GIVEN WITH THE SEED: the statements are not yours to turn. If you find one false, say at which input.
  Laid BY PROGRAM, IN A SANDBOX (cutbox-rows.mjs): the forced cells as the released guide's own fill.sh prints them over the translation 8d0f6bccdf6898f4… (all of the seat's roots in one cut). By AI agents, Wed Nov 11 2026. No macro, syntax, notation, axiom, sorry.
-/
import Derived.Test.YtjaolkfjpnpglaaChecked
import GoSem.Claim
import GoSem.ClaimJoined
import GoSem.ClaimMapViews
import Derived.JoinedTies
import Derived.KernelRfl
namespace Go.Proofs.Ytjaolkfjpnpglaa
/- THE CELL 'sum', in the pinned program and in every row, IS THE sha256 OF THE DUMP (.gsa) THAT YtjaolkfjpnpglaaProg.lean LOADS. Nothing in Lean hashes anything: it is a label: what it is worth is what the hold of that sum in a sandbox is worth. -/
noncomputable def Try.pinned : Pinned := { name := "ytjaolkfjpnpglaa", sum := "8d0f6bccdf6898f4fc65e63fdc552045ba6ec82fe95b6b47136364e5429fb4de", checked := Try.checked }
namespace Rows
def none {H : Type} : Left H := { results := [], args := [] }

/-- 'laws.FnExactPlanMerge': WHATEVER THE INPUT: true; the input reads as it did. -/
def fnExactPlanMergeSpec : ChangeSpec := { name := "fnExactPlanMerge", fn := fun _ => fun
  | [d1, d2, d3] => { results := [.lit (.bool true)], args := [d1, d2, d3] }
  | _ => none }
def fnExactPlanMergeRow : OpenClaim := { program := "ytjaolkfjpnpglaa", sum := "8d0f6bccdf6898f4fc65e63fdc552045ba6ec82fe95b6b47136364e5429fb4de", func := "loop.example/floorrooms/laws.FnExactPlanMerge", spec := "fnExactPlanMerge", inPlace := ["internal/abi.NoEscape"], unfollowed := true, recurses := true, apart := false }
def FnExactPlanMergeSaid : Prop := fnExactPlanMergeRow.holds Try.pinned (OpenSpec.ofChange fnExactPlanMergeSpec)

/-- ITS FALSE NEIGHBOUR: 'it returns false'. Refute it at one input. -/
def fnExactPlanMergeWrong : ChangeSpec := { name := "fnExactPlanMerge", fn := fun _ => fun
  | [d1, d2, d3] => { results := [.lit (.bool false)], args := [d1, d2, d3] }
  | _ => none }
def FnExactPlanMergeWrongFalsely : Prop := fnExactPlanMergeRow.holds Try.pinned (OpenSpec.ofChange fnExactPlanMergeWrong)

/-- 'laws.FnExactPlanUnder': WHATEVER THE INPUT: true; the input reads as it did. -/
def fnExactPlanUnderSpec : ChangeSpec := { name := "fnExactPlanUnder", fn := fun _ => fun
  | [d1, d2] => { results := [.lit (.bool true)], args := [d1, d2] }
  | _ => none }
def fnExactPlanUnderRow : OpenClaim := { program := "ytjaolkfjpnpglaa", sum := "8d0f6bccdf6898f4fc65e63fdc552045ba6ec82fe95b6b47136364e5429fb4de", func := "loop.example/floorrooms/laws.FnExactPlanUnder", spec := "fnExactPlanUnder", inPlace := ["internal/abi.NoEscape"], unfollowed := true, recurses := true, apart := false }
def FnExactPlanUnderSaid : Prop := fnExactPlanUnderRow.holds Try.pinned (OpenSpec.ofChange fnExactPlanUnderSpec)

/-- ITS FALSE NEIGHBOUR: 'it returns false'. Refute it at one input. -/
def fnExactPlanUnderWrong : ChangeSpec := { name := "fnExactPlanUnder", fn := fun _ => fun
  | [d1, d2] => { results := [.lit (.bool false)], args := [d1, d2] }
  | _ => none }
def FnExactPlanUnderWrongFalsely : Prop := fnExactPlanUnderRow.holds Try.pinned (OpenSpec.ofChange fnExactPlanUnderWrong)

/-- 'laws.FnExactWallMany': WHATEVER THE INPUT: true; the input reads as it did. -/
def fnExactWallManySpec : ChangeSpec := { name := "fnExactWallMany", fn := fun _ => fun
  | [d] => { results := [.lit (.bool true)], args := [d] }
  | _ => none }
def fnExactWallManyRow : OpenClaim := { program := "ytjaolkfjpnpglaa", sum := "8d0f6bccdf6898f4fc65e63fdc552045ba6ec82fe95b6b47136364e5429fb4de", func := "loop.example/floorrooms/laws.FnExactWallMany", spec := "fnExactWallMany", inPlace := ["internal/abi.NoEscape"], unfollowed := true, recurses := true, apart := false }
def FnExactWallManySaid : Prop := fnExactWallManyRow.holds Try.pinned (OpenSpec.ofChange fnExactWallManySpec)

/-- ITS FALSE NEIGHBOUR: 'it returns false'. Refute it at one input. -/
def fnExactWallManyWrong : ChangeSpec := { name := "fnExactWallMany", fn := fun _ => fun
  | [d] => { results := [.lit (.bool false)], args := [d] }
  | _ => none }
def FnExactWallManyWrongFalsely : Prop := fnExactWallManyRow.holds Try.pinned (OpenSpec.ofChange fnExactWallManyWrong)

/-- 'laws.FnExactPlanBeside': WHATEVER THE INPUT: true; the input reads as it did. -/
def fnExactPlanBesideSpec : ChangeSpec := { name := "fnExactPlanBeside", fn := fun _ => fun
  | [d1, d2] => { results := [.lit (.bool true)], args := [d1, d2] }
  | _ => none }
def fnExactPlanBesideRow : OpenClaim := { program := "ytjaolkfjpnpglaa", sum := "8d0f6bccdf6898f4fc65e63fdc552045ba6ec82fe95b6b47136364e5429fb4de", func := "loop.example/floorrooms/laws.FnExactPlanBeside", spec := "fnExactPlanBeside", inPlace := ["internal/abi.NoEscape"], unfollowed := true, recurses := true, apart := false }
def FnExactPlanBesideSaid : Prop := fnExactPlanBesideRow.holds Try.pinned (OpenSpec.ofChange fnExactPlanBesideSpec)

/-- ITS FALSE NEIGHBOUR: 'it returns false'. Refute it at one input. -/
def fnExactPlanBesideWrong : ChangeSpec := { name := "fnExactPlanBeside", fn := fun _ => fun
  | [d1, d2] => { results := [.lit (.bool false)], args := [d1, d2] }
  | _ => none }
def FnExactPlanBesideWrongFalsely : Prop := fnExactPlanBesideRow.holds Try.pinned (OpenSpec.ofChange fnExactPlanBesideWrong)

/-- 'laws.FnExactPlanWide': WHATEVER THE INPUT: true; the input reads as it did. -/
def fnExactPlanWideSpec : ChangeSpec := { name := "fnExactPlanWide", fn := fun _ => fun
  | [d1, d2] => { results := [.lit (.bool true)], args := [d1, d2] }
  | _ => none }
def fnExactPlanWideRow : OpenClaim := { program := "ytjaolkfjpnpglaa", sum := "8d0f6bccdf6898f4fc65e63fdc552045ba6ec82fe95b6b47136364e5429fb4de", func := "loop.example/floorrooms/laws.FnExactPlanWide", spec := "fnExactPlanWide", inPlace := ["internal/abi.NoEscape"], unfollowed := true, recurses := true, apart := false }
def FnExactPlanWideSaid : Prop := fnExactPlanWideRow.holds Try.pinned (OpenSpec.ofChange fnExactPlanWideSpec)

/-- ITS FALSE NEIGHBOUR: 'it returns false'. Refute it at one input. -/
def fnExactPlanWideWrong : ChangeSpec := { name := "fnExactPlanWide", fn := fun _ => fun
  | [d1, d2] => { results := [.lit (.bool false)], args := [d1, d2] }
  | _ => none }
def FnExactPlanWideWrongFalsely : Prop := fnExactPlanWideRow.holds Try.pinned (OpenSpec.ofChange fnExactPlanWideWrong)

/-- 'laws.FnExactPlanSplit': WHATEVER THE INPUT: true; the input reads as it did. -/
def fnExactPlanSplitSpec : ChangeSpec := { name := "fnExactPlanSplit", fn := fun _ => fun
  | [d1, d2, d3, d4] => { results := [.lit (.bool true)], args := [d1, d2, d3, d4] }
  | _ => none }
def fnExactPlanSplitRow : OpenClaim := { program := "ytjaolkfjpnpglaa", sum := "8d0f6bccdf6898f4fc65e63fdc552045ba6ec82fe95b6b47136364e5429fb4de", func := "loop.example/floorrooms/laws.FnExactPlanSplit", spec := "fnExactPlanSplit", inPlace := ["internal/abi.NoEscape"], unfollowed := true, recurses := true, apart := false }
def FnExactPlanSplitSaid : Prop := fnExactPlanSplitRow.holds Try.pinned (OpenSpec.ofChange fnExactPlanSplitSpec)

/-- ITS FALSE NEIGHBOUR: 'it returns false'. Refute it at one input. -/
def fnExactPlanSplitWrong : ChangeSpec := { name := "fnExactPlanSplit", fn := fun _ => fun
  | [d1, d2, d3, d4] => { results := [.lit (.bool false)], args := [d1, d2, d3, d4] }
  | _ => none }
def FnExactPlanSplitWrongFalsely : Prop := fnExactPlanSplitRow.holds Try.pinned (OpenSpec.ofChange fnExactPlanSplitWrong)

/-- 'laws.FnExactNearLength': WHATEVER THE INPUT: true; the input reads as it did. -/
def fnExactNearLengthSpec : ChangeSpec := { name := "fnExactNearLength", fn := fun _ => fun
  | [d1, d2, d3] => { results := [.lit (.bool true)], args := [d1, d2, d3] }
  | _ => none }
def fnExactNearLengthRow : OpenClaim := { program := "ytjaolkfjpnpglaa", sum := "8d0f6bccdf6898f4fc65e63fdc552045ba6ec82fe95b6b47136364e5429fb4de", func := "loop.example/floorrooms/laws.FnExactNearLength", spec := "fnExactNearLength", inPlace := ["internal/abi.NoEscape"], unfollowed := true, recurses := true, apart := false }
def FnExactNearLengthSaid : Prop := fnExactNearLengthRow.holds Try.pinned (OpenSpec.ofChange fnExactNearLengthSpec)

/-- ITS FALSE NEIGHBOUR: 'it returns false'. Refute it at one input. -/
def fnExactNearLengthWrong : ChangeSpec := { name := "fnExactNearLength", fn := fun _ => fun
  | [d1, d2, d3] => { results := [.lit (.bool false)], args := [d1, d2, d3] }
  | _ => none }
def FnExactNearLengthWrongFalsely : Prop := fnExactNearLengthRow.holds Try.pinned (OpenSpec.ofChange fnExactNearLengthWrong)

/-- 'laws.FnExactNearIs': WHATEVER THE INPUT: true; the input reads as it did. -/
def fnExactNearIsSpec : ChangeSpec := { name := "fnExactNearIs", fn := fun _ => fun
  | [d1, d2, d3] => { results := [.lit (.bool true)], args := [d1, d2, d3] }
  | _ => none }
def fnExactNearIsRow : OpenClaim := { program := "ytjaolkfjpnpglaa", sum := "8d0f6bccdf6898f4fc65e63fdc552045ba6ec82fe95b6b47136364e5429fb4de", func := "loop.example/floorrooms/laws.FnExactNearIs", spec := "fnExactNearIs", inPlace := ["internal/abi.NoEscape"], unfollowed := true, recurses := true, apart := false }
def FnExactNearIsSaid : Prop := fnExactNearIsRow.holds Try.pinned (OpenSpec.ofChange fnExactNearIsSpec)

/-- ITS FALSE NEIGHBOUR: 'it returns false'. Refute it at one input. -/
def fnExactNearIsWrong : ChangeSpec := { name := "fnExactNearIs", fn := fun _ => fun
  | [d1, d2, d3] => { results := [.lit (.bool false)], args := [d1, d2, d3] }
  | _ => none }
def FnExactNearIsWrongFalsely : Prop := fnExactNearIsRow.holds Try.pinned (OpenSpec.ofChange fnExactNearIsWrong)

/-- 'laws.FnExactWallLongest': WHATEVER THE INPUT: true; the input reads as it did. -/
def fnExactWallLongestSpec : ChangeSpec := { name := "fnExactWallLongest", fn := fun _ => fun
  | [d] => { results := [.lit (.bool true)], args := [d] }
  | _ => none }
def fnExactWallLongestRow : OpenClaim := { program := "ytjaolkfjpnpglaa", sum := "8d0f6bccdf6898f4fc65e63fdc552045ba6ec82fe95b6b47136364e5429fb4de", func := "loop.example/floorrooms/laws.FnExactWallLongest", spec := "fnExactWallLongest", inPlace := ["internal/abi.NoEscape"], unfollowed := true, recurses := true, apart := false }
def FnExactWallLongestSaid : Prop := fnExactWallLongestRow.holds Try.pinned (OpenSpec.ofChange fnExactWallLongestSpec)

/-- ITS FALSE NEIGHBOUR: 'it returns false'. Refute it at one input. -/
def fnExactWallLongestWrong : ChangeSpec := { name := "fnExactWallLongest", fn := fun _ => fun
  | [d] => { results := [.lit (.bool false)], args := [d] }
  | _ => none }
def FnExactWallLongestWrongFalsely : Prop := fnExactWallLongestRow.holds Try.pinned (OpenSpec.ofChange fnExactWallLongestWrong)

/-- 'laws.FnExactWallEnds': WHATEVER THE INPUT: true; the input reads as it did. -/
def fnExactWallEndsSpec : ChangeSpec := { name := "fnExactWallEnds", fn := fun _ => fun
  | [d] => { results := [.lit (.bool true)], args := [d] }
  | _ => none }
def fnExactWallEndsRow : OpenClaim := { program := "ytjaolkfjpnpglaa", sum := "8d0f6bccdf6898f4fc65e63fdc552045ba6ec82fe95b6b47136364e5429fb4de", func := "loop.example/floorrooms/laws.FnExactWallEnds", spec := "fnExactWallEnds", inPlace := ["internal/abi.NoEscape"], unfollowed := true, recurses := true, apart := false }
def FnExactWallEndsSaid : Prop := fnExactWallEndsRow.holds Try.pinned (OpenSpec.ofChange fnExactWallEndsSpec)

/-- ITS FALSE NEIGHBOUR: 'it returns false'. Refute it at one input. -/
def fnExactWallEndsWrong : ChangeSpec := { name := "fnExactWallEnds", fn := fun _ => fun
  | [d] => { results := [.lit (.bool false)], args := [d] }
  | _ => none }
def FnExactWallEndsWrongFalsely : Prop := fnExactWallEndsRow.holds Try.pinned (OpenSpec.ofChange fnExactWallEndsWrong)

/-- 'laws.FnExactNearMany': WHATEVER THE INPUT: true; the input reads as it did. -/
def fnExactNearManySpec : ChangeSpec := { name := "fnExactNearMany", fn := fun _ => fun
  | [d] => { results := [.lit (.bool true)], args := [d] }
  | _ => none }
def fnExactNearManyRow : OpenClaim := { program := "ytjaolkfjpnpglaa", sum := "8d0f6bccdf6898f4fc65e63fdc552045ba6ec82fe95b6b47136364e5429fb4de", func := "loop.example/floorrooms/laws.FnExactNearMany", spec := "fnExactNearMany", inPlace := ["internal/abi.NoEscape"], unfollowed := true, recurses := true, apart := false }
def FnExactNearManySaid : Prop := fnExactNearManyRow.holds Try.pinned (OpenSpec.ofChange fnExactNearManySpec)

/-- ITS FALSE NEIGHBOUR: 'it returns false'. Refute it at one input. -/
def fnExactNearManyWrong : ChangeSpec := { name := "fnExactNearMany", fn := fun _ => fun
  | [d] => { results := [.lit (.bool false)], args := [d] }
  | _ => none }
def FnExactNearManyWrongFalsely : Prop := fnExactNearManyRow.holds Try.pinned (OpenSpec.ofChange fnExactNearManyWrong)

/-- 'laws.FnExactPlanTight': WHATEVER THE INPUT: true; the input reads as it did. -/
def fnExactPlanTightSpec : ChangeSpec := { name := "fnExactPlanTight", fn := fun _ => fun
  | [d] => { results := [.lit (.bool true)], args := [d] }
  | _ => none }
def fnExactPlanTightRow : OpenClaim := { program := "ytjaolkfjpnpglaa", sum := "8d0f6bccdf6898f4fc65e63fdc552045ba6ec82fe95b6b47136364e5429fb4de", func := "loop.example/floorrooms/laws.FnExactPlanTight", spec := "fnExactPlanTight", inPlace := ["internal/abi.NoEscape"], unfollowed := true, recurses := true, apart := false }
def FnExactPlanTightSaid : Prop := fnExactPlanTightRow.holds Try.pinned (OpenSpec.ofChange fnExactPlanTightSpec)

/-- ITS FALSE NEIGHBOUR: 'it returns false'. Refute it at one input. -/
def fnExactPlanTightWrong : ChangeSpec := { name := "fnExactPlanTight", fn := fun _ => fun
  | [d] => { results := [.lit (.bool false)], args := [d] }
  | _ => none }
def FnExactPlanTightWrongFalsely : Prop := fnExactPlanTightRow.holds Try.pinned (OpenSpec.ofChange fnExactPlanTightWrong)

/- THE SECOND FORM. 'bulk': how many values and letters a reading holds, each counted each time it is reached (what is shared counts as often as it is met; a slice's spare places count too). A statement '..UptoSaid' is the law's where the arguments, and the package variables that the reading takes, are together of bulk at most 1048576: NARROWER than '..Said'. Prove '..Said' where nothing that the law and all that it calls make is longer than what came in: it says more and counts as full. Else prove '..UptoSaid'. A law counts once. -/
mutual
def uptoBulk {H : Type} : DataW H → Nat
  | .lit (.string bytes) => bytes.length + 1
  | .lit _ => 1
  | .nil => 1
  | .ptr d => uptoBulk d + 1
  | .slice elems spare => uptoBulkAll elems + uptoBulkAll spare + 1
  | .agg parts => uptoBulkAll parts + 1
  | .iface _ d => uptoBulk d + 1
  | .map entries => uptoBulkEntries entries + 1
  | .held _ => 1
def uptoBulkAll {H : Type} : List (DataW H) → Nat
  | [] => 0
  | d :: r => uptoBulk d + uptoBulkAll r
def uptoBulkEntries {H : Type} : List (Lit × DataW H) → Nat
  | [] => 0
  | x :: r => uptoBulkEntry x + uptoBulkEntries r
def uptoBulkEntry {H : Type} : Lit × DataW H → Nat
  | (.string bytes, d) => bytes.length + uptoBulk d + 1
  | (_, d) => uptoBulk d + 1
 end
def uptoSmall : (H : Type) → List (DataW H) → Bool := fun _ ds => decide (uptoBulkAll ds ≤ 1048576)
def OpenSpec.upto (s : _root_.Go.ChangeSpec) : _root_.Go.OpenSpec := { _root_.Go.OpenSpec.ofChange s with cond := some uptoSmall }

/-- 'laws.FnExactPlanMerge', WHERE WHAT IT READS IS OF BULK AT MOST 1048576: true; the input reads as it did. -/
def fnExactPlanMergeUptoRow : OpenClaim := { program := "ytjaolkfjpnpglaa", sum := "8d0f6bccdf6898f4fc65e63fdc552045ba6ec82fe95b6b47136364e5429fb4de", func := "loop.example/floorrooms/laws.FnExactPlanMerge", spec := "fnExactPlanMerge", inPlace := ["internal/abi.NoEscape"], unfollowed := true, recurses := true, apart := false, narrowed := true }
def FnExactPlanMergeUptoSaid : Prop := fnExactPlanMergeUptoRow.holds Try.pinned (OpenSpec.upto fnExactPlanMergeSpec)

/-- 'laws.FnExactPlanUnder', WHERE WHAT IT READS IS OF BULK AT MOST 1048576: true; the input reads as it did. -/
def fnExactPlanUnderUptoRow : OpenClaim := { program := "ytjaolkfjpnpglaa", sum := "8d0f6bccdf6898f4fc65e63fdc552045ba6ec82fe95b6b47136364e5429fb4de", func := "loop.example/floorrooms/laws.FnExactPlanUnder", spec := "fnExactPlanUnder", inPlace := ["internal/abi.NoEscape"], unfollowed := true, recurses := true, apart := false, narrowed := true }
def FnExactPlanUnderUptoSaid : Prop := fnExactPlanUnderUptoRow.holds Try.pinned (OpenSpec.upto fnExactPlanUnderSpec)

/-- 'laws.FnExactWallMany', WHERE WHAT IT READS IS OF BULK AT MOST 1048576: true; the input reads as it did. -/
def fnExactWallManyUptoRow : OpenClaim := { program := "ytjaolkfjpnpglaa", sum := "8d0f6bccdf6898f4fc65e63fdc552045ba6ec82fe95b6b47136364e5429fb4de", func := "loop.example/floorrooms/laws.FnExactWallMany", spec := "fnExactWallMany", inPlace := ["internal/abi.NoEscape"], unfollowed := true, recurses := true, apart := false, narrowed := true }
def FnExactWallManyUptoSaid : Prop := fnExactWallManyUptoRow.holds Try.pinned (OpenSpec.upto fnExactWallManySpec)

/-- 'laws.FnExactPlanBeside', WHERE WHAT IT READS IS OF BULK AT MOST 1048576: true; the input reads as it did. -/
def fnExactPlanBesideUptoRow : OpenClaim := { program := "ytjaolkfjpnpglaa", sum := "8d0f6bccdf6898f4fc65e63fdc552045ba6ec82fe95b6b47136364e5429fb4de", func := "loop.example/floorrooms/laws.FnExactPlanBeside", spec := "fnExactPlanBeside", inPlace := ["internal/abi.NoEscape"], unfollowed := true, recurses := true, apart := false, narrowed := true }
def FnExactPlanBesideUptoSaid : Prop := fnExactPlanBesideUptoRow.holds Try.pinned (OpenSpec.upto fnExactPlanBesideSpec)

/-- 'laws.FnExactPlanWide', WHERE WHAT IT READS IS OF BULK AT MOST 1048576: true; the input reads as it did. -/
def fnExactPlanWideUptoRow : OpenClaim := { program := "ytjaolkfjpnpglaa", sum := "8d0f6bccdf6898f4fc65e63fdc552045ba6ec82fe95b6b47136364e5429fb4de", func := "loop.example/floorrooms/laws.FnExactPlanWide", spec := "fnExactPlanWide", inPlace := ["internal/abi.NoEscape"], unfollowed := true, recurses := true, apart := false, narrowed := true }
def FnExactPlanWideUptoSaid : Prop := fnExactPlanWideUptoRow.holds Try.pinned (OpenSpec.upto fnExactPlanWideSpec)

/-- 'laws.FnExactPlanSplit', WHERE WHAT IT READS IS OF BULK AT MOST 1048576: true; the input reads as it did. -/
def fnExactPlanSplitUptoRow : OpenClaim := { program := "ytjaolkfjpnpglaa", sum := "8d0f6bccdf6898f4fc65e63fdc552045ba6ec82fe95b6b47136364e5429fb4de", func := "loop.example/floorrooms/laws.FnExactPlanSplit", spec := "fnExactPlanSplit", inPlace := ["internal/abi.NoEscape"], unfollowed := true, recurses := true, apart := false, narrowed := true }
def FnExactPlanSplitUptoSaid : Prop := fnExactPlanSplitUptoRow.holds Try.pinned (OpenSpec.upto fnExactPlanSplitSpec)

/-- 'laws.FnExactNearLength', WHERE WHAT IT READS IS OF BULK AT MOST 1048576: true; the input reads as it did. -/
def fnExactNearLengthUptoRow : OpenClaim := { program := "ytjaolkfjpnpglaa", sum := "8d0f6bccdf6898f4fc65e63fdc552045ba6ec82fe95b6b47136364e5429fb4de", func := "loop.example/floorrooms/laws.FnExactNearLength", spec := "fnExactNearLength", inPlace := ["internal/abi.NoEscape"], unfollowed := true, recurses := true, apart := false, narrowed := true }
def FnExactNearLengthUptoSaid : Prop := fnExactNearLengthUptoRow.holds Try.pinned (OpenSpec.upto fnExactNearLengthSpec)

/-- 'laws.FnExactNearIs', WHERE WHAT IT READS IS OF BULK AT MOST 1048576: true; the input reads as it did. -/
def fnExactNearIsUptoRow : OpenClaim := { program := "ytjaolkfjpnpglaa", sum := "8d0f6bccdf6898f4fc65e63fdc552045ba6ec82fe95b6b47136364e5429fb4de", func := "loop.example/floorrooms/laws.FnExactNearIs", spec := "fnExactNearIs", inPlace := ["internal/abi.NoEscape"], unfollowed := true, recurses := true, apart := false, narrowed := true }
def FnExactNearIsUptoSaid : Prop := fnExactNearIsUptoRow.holds Try.pinned (OpenSpec.upto fnExactNearIsSpec)

/-- 'laws.FnExactWallLongest', WHERE WHAT IT READS IS OF BULK AT MOST 1048576: true; the input reads as it did. -/
def fnExactWallLongestUptoRow : OpenClaim := { program := "ytjaolkfjpnpglaa", sum := "8d0f6bccdf6898f4fc65e63fdc552045ba6ec82fe95b6b47136364e5429fb4de", func := "loop.example/floorrooms/laws.FnExactWallLongest", spec := "fnExactWallLongest", inPlace := ["internal/abi.NoEscape"], unfollowed := true, recurses := true, apart := false, narrowed := true }
def FnExactWallLongestUptoSaid : Prop := fnExactWallLongestUptoRow.holds Try.pinned (OpenSpec.upto fnExactWallLongestSpec)

/-- 'laws.FnExactWallEnds', WHERE WHAT IT READS IS OF BULK AT MOST 1048576: true; the input reads as it did. -/
def fnExactWallEndsUptoRow : OpenClaim := { program := "ytjaolkfjpnpglaa", sum := "8d0f6bccdf6898f4fc65e63fdc552045ba6ec82fe95b6b47136364e5429fb4de", func := "loop.example/floorrooms/laws.FnExactWallEnds", spec := "fnExactWallEnds", inPlace := ["internal/abi.NoEscape"], unfollowed := true, recurses := true, apart := false, narrowed := true }
def FnExactWallEndsUptoSaid : Prop := fnExactWallEndsUptoRow.holds Try.pinned (OpenSpec.upto fnExactWallEndsSpec)

/-- 'laws.FnExactNearMany', WHERE WHAT IT READS IS OF BULK AT MOST 1048576: true; the input reads as it did. -/
def fnExactNearManyUptoRow : OpenClaim := { program := "ytjaolkfjpnpglaa", sum := "8d0f6bccdf6898f4fc65e63fdc552045ba6ec82fe95b6b47136364e5429fb4de", func := "loop.example/floorrooms/laws.FnExactNearMany", spec := "fnExactNearMany", inPlace := ["internal/abi.NoEscape"], unfollowed := true, recurses := true, apart := false, narrowed := true }
def FnExactNearManyUptoSaid : Prop := fnExactNearManyUptoRow.holds Try.pinned (OpenSpec.upto fnExactNearManySpec)

/-- 'laws.FnExactPlanTight', WHERE WHAT IT READS IS OF BULK AT MOST 1048576: true; the input reads as it did. -/
def fnExactPlanTightUptoRow : OpenClaim := { program := "ytjaolkfjpnpglaa", sum := "8d0f6bccdf6898f4fc65e63fdc552045ba6ec82fe95b6b47136364e5429fb4de", func := "loop.example/floorrooms/laws.FnExactPlanTight", spec := "fnExactPlanTight", inPlace := ["internal/abi.NoEscape"], unfollowed := true, recurses := true, apart := false, narrowed := true }
def FnExactPlanTightUptoSaid : Prop := fnExactPlanTightUptoRow.holds Try.pinned (OpenSpec.upto fnExactPlanTightSpec)

end Rows
end Go.Proofs.Ytjaolkfjpnpglaa

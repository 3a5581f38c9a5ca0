/-
  No cell of these rows narrows 'for every input' (looked for: loops, veiled, ifaces, maps, wideKeys, modest, calm, conditions, laid).
  DERIVED. THE GIVEN ROWS OF THIS SEAT. 12 by the template 'for every input the law returns true; each argument reads behind the call as it read before'; 0 by the template 'total and deterministic' (their statements: YtaepgogafkmooaaTotals.lean).
  GIVEN WITH THE SEED: the statements are not yours to turn. If you find one false, say at which input.
  Laid BY PROGRAM, IN A SANDBOX (cutbox-rows.mjs): the forced cells as the released guide's own fill.sh prints them over the translation 042fcdf1d8981d7d… (all of the seat's roots in one cut). By AI agents, Wed Nov 11 2026. No macro, syntax, notation, axiom, sorry.
-/
import Derived.Test.YtaepgogafkmooaaChecked
import GoSem.Claim
import GoSem.ClaimJoined
import GoSem.ClaimMapViews
import Derived.JoinedTies
import Derived.KernelRfl
namespace Go.Proofs.Ytaepgogafkmooaa
/- THE CELL 'sum', in the pinned program and in every row, IS THE sha256 OF THE DUMP (.gsa) THAT YtaepgogafkmooaaProg.lean LOADS. Nothing in Lean hashes anything: it is a label: what it is worth is what the hold of that sum in a sandbox is worth. -/
noncomputable def Try.pinned : Pinned := { name := "ytaepgogafkmooaa", sum := "042fcdf1d8981d7d4b313b01eb9cfaab79cbdb49860146d7bc6f95c21caec1fb", checked := Try.checked }
namespace Rows
def none {H : Type} : Left H := { results := [], args := [] }

/-- 'laws.FnMerge': WHATEVER THE INPUT: true; the input reads as it did. -/
def fnMergeSpec : ChangeSpec := { name := "fnMerge", fn := fun _ => fun
  | [d] => { results := [.lit (.bool true)], args := [d] }
  | _ => none }
def fnMergeRow : OpenClaim := { program := "ytaepgogafkmooaa", sum := "042fcdf1d8981d7d4b313b01eb9cfaab79cbdb49860146d7bc6f95c21caec1fb", func := "loop.example/floorrooms/laws.FnMerge", spec := "fnMerge", inPlace := ["internal/abi.NoEscape"], unfollowed := true, recurses := true, apart := false }
def FnMergeSaid : Prop := fnMergeRow.holds Try.pinned (OpenSpec.ofChange fnMergeSpec)

/-- ITS FALSE NEIGHBOUR: 'it returns false'. Refute it at one input. -/
def fnMergeWrong : ChangeSpec := { name := "fnMerge", fn := fun _ => fun
  | [d] => { results := [.lit (.bool false)], args := [d] }
  | _ => none }
def FnMergeWrongFalsely : Prop := fnMergeRow.holds Try.pinned (OpenSpec.ofChange fnMergeWrong)

/-- 'laws.FnLongest': WHATEVER THE INPUT: true; the input reads as it did. -/
def fnLongestSpec : ChangeSpec := { name := "fnLongest", fn := fun _ => fun
  | [d] => { results := [.lit (.bool true)], args := [d] }
  | _ => none }
def fnLongestRow : OpenClaim := { program := "ytaepgogafkmooaa", sum := "042fcdf1d8981d7d4b313b01eb9cfaab79cbdb49860146d7bc6f95c21caec1fb", func := "loop.example/floorrooms/laws.FnLongest", spec := "fnLongest", inPlace := ["internal/abi.NoEscape"], unfollowed := true, recurses := true, apart := false }
def FnLongestSaid : Prop := fnLongestRow.holds Try.pinned (OpenSpec.ofChange fnLongestSpec)

/-- ITS FALSE NEIGHBOUR: 'it returns false'. Refute it at one input. -/
def fnLongestWrong : ChangeSpec := { name := "fnLongest", fn := fun _ => fun
  | [d] => { results := [.lit (.bool false)], args := [d] }
  | _ => none }
def FnLongestWrongFalsely : Prop := fnLongestRow.holds Try.pinned (OpenSpec.ofChange fnLongestWrong)

/-- 'laws.FnWallList': WHATEVER THE INPUT: true; the input reads as it did. -/
def fnWallListSpec : ChangeSpec := { name := "fnWallList", fn := fun _ => fun
  | [d] => { results := [.lit (.bool true)], args := [d] }
  | _ => none }
def fnWallListRow : OpenClaim := { program := "ytaepgogafkmooaa", sum := "042fcdf1d8981d7d4b313b01eb9cfaab79cbdb49860146d7bc6f95c21caec1fb", func := "loop.example/floorrooms/laws.FnWallList", spec := "fnWallList", inPlace := ["internal/abi.NoEscape"], unfollowed := true, recurses := true, apart := false }
def FnWallListSaid : Prop := fnWallListRow.holds Try.pinned (OpenSpec.ofChange fnWallListSpec)

/-- ITS FALSE NEIGHBOUR: 'it returns false'. Refute it at one input. -/
def fnWallListWrong : ChangeSpec := { name := "fnWallList", fn := fun _ => fun
  | [d] => { results := [.lit (.bool false)], args := [d] }
  | _ => none }
def FnWallListWrongFalsely : Prop := fnWallListRow.holds Try.pinned (OpenSpec.ofChange fnWallListWrong)

/-- 'laws.FnEnds': WHATEVER THE INPUT: true; the input reads as it did. -/
def fnEndsSpec : ChangeSpec := { name := "fnEnds", fn := fun _ => fun
  | [d] => { results := [.lit (.bool true)], args := [d] }
  | _ => none }
def fnEndsRow : OpenClaim := { program := "ytaepgogafkmooaa", sum := "042fcdf1d8981d7d4b313b01eb9cfaab79cbdb49860146d7bc6f95c21caec1fb", func := "loop.example/floorrooms/laws.FnEnds", spec := "fnEnds", inPlace := ["internal/abi.NoEscape"], unfollowed := true, recurses := true, apart := false }
def FnEndsSaid : Prop := fnEndsRow.holds Try.pinned (OpenSpec.ofChange fnEndsSpec)

/-- ITS FALSE NEIGHBOUR: 'it returns false'. Refute it at one input. -/
def fnEndsWrong : ChangeSpec := { name := "fnEnds", fn := fun _ => fun
  | [d] => { results := [.lit (.bool false)], args := [d] }
  | _ => none }
def FnEndsWrongFalsely : Prop := fnEndsRow.holds Try.pinned (OpenSpec.ofChange fnEndsWrong)

/-- 'laws.FnSides': WHATEVER THE INPUT: true; the input reads as it did. -/
def fnSidesSpec : ChangeSpec := { name := "fnSides", fn := fun _ => fun
  | [d] => { results := [.lit (.bool true)], args := [d] }
  | _ => none }
def fnSidesRow : OpenClaim := { program := "ytaepgogafkmooaa", sum := "042fcdf1d8981d7d4b313b01eb9cfaab79cbdb49860146d7bc6f95c21caec1fb", func := "loop.example/floorrooms/laws.FnSides", spec := "fnSides", inPlace := ["internal/abi.NoEscape"], unfollowed := true, recurses := true, apart := false }
def FnSidesSaid : Prop := fnSidesRow.holds Try.pinned (OpenSpec.ofChange fnSidesSpec)

/-- ITS FALSE NEIGHBOUR: 'it returns false'. Refute it at one input. -/
def fnSidesWrong : ChangeSpec := { name := "fnSides", fn := fun _ => fun
  | [d] => { results := [.lit (.bool false)], args := [d] }
  | _ => none }
def FnSidesWrongFalsely : Prop := fnSidesRow.holds Try.pinned (OpenSpec.ofChange fnSidesWrong)

/-- 'laws.FnNearOf': WHATEVER THE INPUT: true; the input reads as it did. -/
def fnNearOfSpec : ChangeSpec := { name := "fnNearOf", fn := fun _ => fun
  | [d] => { results := [.lit (.bool true)], args := [d] }
  | _ => none }
def fnNearOfRow : OpenClaim := { program := "ytaepgogafkmooaa", sum := "042fcdf1d8981d7d4b313b01eb9cfaab79cbdb49860146d7bc6f95c21caec1fb", func := "loop.example/floorrooms/laws.FnNearOf", spec := "fnNearOf", inPlace := ["internal/abi.NoEscape"], unfollowed := true, recurses := true, apart := false }
def FnNearOfSaid : Prop := fnNearOfRow.holds Try.pinned (OpenSpec.ofChange fnNearOfSpec)

/-- ITS FALSE NEIGHBOUR: 'it returns false'. Refute it at one input. -/
def fnNearOfWrong : ChangeSpec := { name := "fnNearOf", fn := fun _ => fun
  | [d] => { results := [.lit (.bool false)], args := [d] }
  | _ => none }
def FnNearOfWrongFalsely : Prop := fnNearOfRow.holds Try.pinned (OpenSpec.ofChange fnNearOfWrong)

/-- 'laws.FnNearOut': WHATEVER THE INPUT: true; the input reads as it did. -/
def fnNearOutSpec : ChangeSpec := { name := "fnNearOut", fn := fun _ => fun
  | [d] => { results := [.lit (.bool true)], args := [d] }
  | _ => none }
def fnNearOutRow : OpenClaim := { program := "ytaepgogafkmooaa", sum := "042fcdf1d8981d7d4b313b01eb9cfaab79cbdb49860146d7bc6f95c21caec1fb", func := "loop.example/floorrooms/laws.FnNearOut", spec := "fnNearOut", inPlace := ["internal/abi.NoEscape"], unfollowed := true, recurses := true, apart := false }
def FnNearOutSaid : Prop := fnNearOutRow.holds Try.pinned (OpenSpec.ofChange fnNearOutSpec)

/-- ITS FALSE NEIGHBOUR: 'it returns false'. Refute it at one input. -/
def fnNearOutWrong : ChangeSpec := { name := "fnNearOut", fn := fun _ => fun
  | [d] => { results := [.lit (.bool false)], args := [d] }
  | _ => none }
def FnNearOutWrongFalsely : Prop := fnNearOutRow.holds Try.pinned (OpenSpec.ofChange fnNearOutWrong)

/-- 'laws.FnCutFirst': WHATEVER THE INPUT: true; the input reads as it did. -/
def fnCutFirstSpec : ChangeSpec := { name := "fnCutFirst", fn := fun _ => fun
  | [d] => { results := [.lit (.bool true)], args := [d] }
  | _ => none }
def fnCutFirstRow : OpenClaim := { program := "ytaepgogafkmooaa", sum := "042fcdf1d8981d7d4b313b01eb9cfaab79cbdb49860146d7bc6f95c21caec1fb", func := "loop.example/floorrooms/laws.FnCutFirst", spec := "fnCutFirst", inPlace := ["internal/abi.NoEscape"], unfollowed := true, recurses := true, apart := false }
def FnCutFirstSaid : Prop := fnCutFirstRow.holds Try.pinned (OpenSpec.ofChange fnCutFirstSpec)

/-- ITS FALSE NEIGHBOUR: 'it returns false'. Refute it at one input. -/
def fnCutFirstWrong : ChangeSpec := { name := "fnCutFirst", fn := fun _ => fun
  | [d] => { results := [.lit (.bool false)], args := [d] }
  | _ => none }
def FnCutFirstWrongFalsely : Prop := fnCutFirstRow.holds Try.pinned (OpenSpec.ofChange fnCutFirstWrong)

/-- 'laws.FnCutMany': WHATEVER THE INPUT: true; the input reads as it did. -/
def fnCutManySpec : ChangeSpec := { name := "fnCutMany", fn := fun _ => fun
  | [d] => { results := [.lit (.bool true)], args := [d] }
  | _ => none }
def fnCutManyRow : OpenClaim := { program := "ytaepgogafkmooaa", sum := "042fcdf1d8981d7d4b313b01eb9cfaab79cbdb49860146d7bc6f95c21caec1fb", func := "loop.example/floorrooms/laws.FnCutMany", spec := "fnCutMany", inPlace := ["internal/abi.NoEscape"], unfollowed := true, recurses := true, apart := false }
def FnCutManySaid : Prop := fnCutManyRow.holds Try.pinned (OpenSpec.ofChange fnCutManySpec)

/-- ITS FALSE NEIGHBOUR: 'it returns false'. Refute it at one input. -/
def fnCutManyWrong : ChangeSpec := { name := "fnCutMany", fn := fun _ => fun
  | [d] => { results := [.lit (.bool false)], args := [d] }
  | _ => none }
def FnCutManyWrongFalsely : Prop := fnCutManyRow.holds Try.pinned (OpenSpec.ofChange fnCutManyWrong)

/-- 'laws.FnColours': WHATEVER THE INPUT: true; the input reads as it did. -/
def fnColoursSpec : ChangeSpec := { name := "fnColours", fn := fun _ => fun
  | [d] => { results := [.lit (.bool true)], args := [d] }
  | _ => none }
def fnColoursRow : OpenClaim := { program := "ytaepgogafkmooaa", sum := "042fcdf1d8981d7d4b313b01eb9cfaab79cbdb49860146d7bc6f95c21caec1fb", func := "loop.example/floorrooms/laws.FnColours", spec := "fnColours", inPlace := ["internal/abi.NoEscape"], unfollowed := true, recurses := true, apart := false }
def FnColoursSaid : Prop := fnColoursRow.holds Try.pinned (OpenSpec.ofChange fnColoursSpec)

/-- ITS FALSE NEIGHBOUR: 'it returns false'. Refute it at one input. -/
def fnColoursWrong : ChangeSpec := { name := "fnColours", fn := fun _ => fun
  | [d] => { results := [.lit (.bool false)], args := [d] }
  | _ => none }
def FnColoursWrongFalsely : Prop := fnColoursRow.holds Try.pinned (OpenSpec.ofChange fnColoursWrong)

/-- 'laws.FnTight': WHATEVER THE INPUT: true; the input reads as it did. -/
def fnTightSpec : ChangeSpec := { name := "fnTight", fn := fun _ => fun
  | [d] => { results := [.lit (.bool true)], args := [d] }
  | _ => none }
def fnTightRow : OpenClaim := { program := "ytaepgogafkmooaa", sum := "042fcdf1d8981d7d4b313b01eb9cfaab79cbdb49860146d7bc6f95c21caec1fb", func := "loop.example/floorrooms/laws.FnTight", spec := "fnTight", inPlace := ["internal/abi.NoEscape"], unfollowed := true, recurses := true, apart := false }
def FnTightSaid : Prop := fnTightRow.holds Try.pinned (OpenSpec.ofChange fnTightSpec)

/-- ITS FALSE NEIGHBOUR: 'it returns false'. Refute it at one input. -/
def fnTightWrong : ChangeSpec := { name := "fnTight", fn := fun _ => fun
  | [d] => { results := [.lit (.bool false)], args := [d] }
  | _ => none }
def FnTightWrongFalsely : Prop := fnTightRow.holds Try.pinned (OpenSpec.ofChange fnTightWrong)

/-- 'laws.FnExactPlanTight': WHATEVER THE INPUT: true; the input reads as it did. -/
def fnExactPlanTightSpec : ChangeSpec := { name := "fnExactPlanTight", fn := fun _ => fun
  | [d] => { results := [.lit (.bool true)], args := [d] }
  | _ => none }
def fnExactPlanTightRow : OpenClaim := { program := "ytaepgogafkmooaa", sum := "042fcdf1d8981d7d4b313b01eb9cfaab79cbdb49860146d7bc6f95c21caec1fb", func := "loop.example/floorrooms/laws.FnExactPlanTight", spec := "fnExactPlanTight", inPlace := ["internal/abi.NoEscape"], unfollowed := true, recurses := true, apart := false }
def FnExactPlanTightSaid : Prop := fnExactPlanTightRow.holds Try.pinned (OpenSpec.ofChange fnExactPlanTightSpec)

/-- ITS FALSE NEIGHBOUR: 'it returns false'. Refute it at one input. -/
def fnExactPlanTightWrong : ChangeSpec := { name := "fnExactPlanTight", fn := fun _ => fun
  | [d] => { results := [.lit (.bool false)], args := [d] }
  | _ => none }
def FnExactPlanTightWrongFalsely : Prop := fnExactPlanTightRow.holds Try.pinned (OpenSpec.ofChange fnExactPlanTightWrong)

/- THE SECOND FORM. 'bulk': how many values and letters a reading holds, each counted each time it is reached (what is shared counts as often as it is met; a slice's spare places count too). A statement '..UptoSaid' is the law's where the arguments, and the package variables that the reading takes, are together of bulk at most 1048576: NARROWER than '..Said'. Prove '..Said' where nothing that the law and all that it calls make is longer than what came in: it says more and counts as full. Else prove '..UptoSaid'. A law counts once. -/
mutual
def uptoBulk {H : Type} : DataW H → Nat
  | .lit (.string bytes) => bytes.length + 1
  | .lit _ => 1
  | .nil => 1
  | .ptr d => uptoBulk d + 1
  | .slice elems spare => uptoBulkAll elems + uptoBulkAll spare + 1
  | .agg parts => uptoBulkAll parts + 1
  | .iface _ d => uptoBulk d + 1
  | .map entries => uptoBulkEntries entries + 1
  | .held _ => 1
def uptoBulkAll {H : Type} : List (DataW H) → Nat
  | [] => 0
  | d :: r => uptoBulk d + uptoBulkAll r
def uptoBulkEntries {H : Type} : List (Lit × DataW H) → Nat
  | [] => 0
  | x :: r => uptoBulkEntry x + uptoBulkEntries r
def uptoBulkEntry {H : Type} : Lit × DataW H → Nat
  | (.string bytes, d) => bytes.length + uptoBulk d + 1
  | (_, d) => uptoBulk d + 1
 end
def uptoSmall : (H : Type) → List (DataW H) → Bool := fun _ ds => decide (uptoBulkAll ds ≤ 1048576)
def OpenSpec.upto (s : _root_.Go.ChangeSpec) : _root_.Go.OpenSpec := { _root_.Go.OpenSpec.ofChange s with cond := some uptoSmall }

/-- 'laws.FnMerge', WHERE WHAT IT READS IS OF BULK AT MOST 1048576: true; the input reads as it did. -/
def fnMergeUptoRow : OpenClaim := { program := "ytaepgogafkmooaa", sum := "042fcdf1d8981d7d4b313b01eb9cfaab79cbdb49860146d7bc6f95c21caec1fb", func := "loop.example/floorrooms/laws.FnMerge", spec := "fnMerge", inPlace := ["internal/abi.NoEscape"], unfollowed := true, recurses := true, apart := false, narrowed := true }
def FnMergeUptoSaid : Prop := fnMergeUptoRow.holds Try.pinned (OpenSpec.upto fnMergeSpec)

/-- 'laws.FnLongest', WHERE WHAT IT READS IS OF BULK AT MOST 1048576: true; the input reads as it did. -/
def fnLongestUptoRow : OpenClaim := { program := "ytaepgogafkmooaa", sum := "042fcdf1d8981d7d4b313b01eb9cfaab79cbdb49860146d7bc6f95c21caec1fb", func := "loop.example/floorrooms/laws.FnLongest", spec := "fnLongest", inPlace := ["internal/abi.NoEscape"], unfollowed := true, recurses := true, apart := false, narrowed := true }
def FnLongestUptoSaid : Prop := fnLongestUptoRow.holds Try.pinned (OpenSpec.upto fnLongestSpec)

/-- 'laws.FnWallList', WHERE WHAT IT READS IS OF BULK AT MOST 1048576: true; the input reads as it did. -/
def fnWallListUptoRow : OpenClaim := { program := "ytaepgogafkmooaa", sum := "042fcdf1d8981d7d4b313b01eb9cfaab79cbdb49860146d7bc6f95c21caec1fb", func := "loop.example/floorrooms/laws.FnWallList", spec := "fnWallList", inPlace := ["internal/abi.NoEscape"], unfollowed := true, recurses := true, apart := false, narrowed := true }
def FnWallListUptoSaid : Prop := fnWallListUptoRow.holds Try.pinned (OpenSpec.upto fnWallListSpec)

/-- 'laws.FnEnds', WHERE WHAT IT READS IS OF BULK AT MOST 1048576: true; the input reads as it did. -/
def fnEndsUptoRow : OpenClaim := { program := "ytaepgogafkmooaa", sum := "042fcdf1d8981d7d4b313b01eb9cfaab79cbdb49860146d7bc6f95c21caec1fb", func := "loop.example/floorrooms/laws.FnEnds", spec := "fnEnds", inPlace := ["internal/abi.NoEscape"], unfollowed := true, recurses := true, apart := false, narrowed := true }
def FnEndsUptoSaid : Prop := fnEndsUptoRow.holds Try.pinned (OpenSpec.upto fnEndsSpec)

/-- 'laws.FnSides', WHERE WHAT IT READS IS OF BULK AT MOST 1048576: true; the input reads as it did. -/
def fnSidesUptoRow : OpenClaim := { program := "ytaepgogafkmooaa", sum := "042fcdf1d8981d7d4b313b01eb9cfaab79cbdb49860146d7bc6f95c21caec1fb", func := "loop.example/floorrooms/laws.FnSides", spec := "fnSides", inPlace := ["internal/abi.NoEscape"], unfollowed := true, recurses := true, apart := false, narrowed := true }
def FnSidesUptoSaid : Prop := fnSidesUptoRow.holds Try.pinned (OpenSpec.upto fnSidesSpec)

/-- 'laws.FnNearOf', WHERE WHAT IT READS IS OF BULK AT MOST 1048576: true; the input reads as it did. -/
def fnNearOfUptoRow : OpenClaim := { program := "ytaepgogafkmooaa", sum := "042fcdf1d8981d7d4b313b01eb9cfaab79cbdb49860146d7bc6f95c21caec1fb", func := "loop.example/floorrooms/laws.FnNearOf", spec := "fnNearOf", inPlace := ["internal/abi.NoEscape"], unfollowed := true, recurses := true, apart := false, narrowed := true }
def FnNearOfUptoSaid : Prop := fnNearOfUptoRow.holds Try.pinned (OpenSpec.upto fnNearOfSpec)

/-- 'laws.FnNearOut', WHERE WHAT IT READS IS OF BULK AT MOST 1048576: true; the input reads as it did. -/
def fnNearOutUptoRow : OpenClaim := { program := "ytaepgogafkmooaa", sum := "042fcdf1d8981d7d4b313b01eb9cfaab79cbdb49860146d7bc6f95c21caec1fb", func := "loop.example/floorrooms/laws.FnNearOut", spec := "fnNearOut", inPlace := ["internal/abi.NoEscape"], unfollowed := true, recurses := true, apart := false, narrowed := true }
def FnNearOutUptoSaid : Prop := fnNearOutUptoRow.holds Try.pinned (OpenSpec.upto fnNearOutSpec)

/-- 'laws.FnCutFirst', WHERE WHAT IT READS IS OF BULK AT MOST 1048576: true; the input reads as it did. -/
def fnCutFirstUptoRow : OpenClaim := { program := "ytaepgogafkmooaa", sum := "042fcdf1d8981d7d4b313b01eb9cfaab79cbdb49860146d7bc6f95c21caec1fb", func := "loop.example/floorrooms/laws.FnCutFirst", spec := "fnCutFirst", inPlace := ["internal/abi.NoEscape"], unfollowed := true, recurses := true, apart := false, narrowed := true }
def FnCutFirstUptoSaid : Prop := fnCutFirstUptoRow.holds Try.pinned (OpenSpec.upto fnCutFirstSpec)

/-- 'laws.FnCutMany', WHERE WHAT IT READS IS OF BULK AT MOST 1048576: true; the input reads as it did. -/
def fnCutManyUptoRow : OpenClaim := { program := "ytaepgogafkmooaa", sum := "042fcdf1d8981d7d4b313b01eb9cfaab79cbdb49860146d7bc6f95c21caec1fb", func := "loop.example/floorrooms/laws.FnCutMany", spec := "fnCutMany", inPlace := ["internal/abi.NoEscape"], unfollowed := true, recurses := true, apart := false, narrowed := true }
def FnCutManyUptoSaid : Prop := fnCutManyUptoRow.holds Try.pinned (OpenSpec.upto fnCutManySpec)

/-- 'laws.FnColours', WHERE WHAT IT READS IS OF BULK AT MOST 1048576: true; the input reads as it did. -/
def fnColoursUptoRow : OpenClaim := { program := "ytaepgogafkmooaa", sum := "042fcdf1d8981d7d4b313b01eb9cfaab79cbdb49860146d7bc6f95c21caec1fb", func := "loop.example/floorrooms/laws.FnColours", spec := "fnColours", inPlace := ["internal/abi.NoEscape"], unfollowed := true, recurses := true, apart := false, narrowed := true }
def FnColoursUptoSaid : Prop := fnColoursUptoRow.holds Try.pinned (OpenSpec.upto fnColoursSpec)

/-- 'laws.FnTight', WHERE WHAT IT READS IS OF BULK AT MOST 1048576: true; the input reads as it did. -/
def fnTightUptoRow : OpenClaim := { program := "ytaepgogafkmooaa", sum := "042fcdf1d8981d7d4b313b01eb9cfaab79cbdb49860146d7bc6f95c21caec1fb", func := "loop.example/floorrooms/laws.FnTight", spec := "fnTight", inPlace := ["internal/abi.NoEscape"], unfollowed := true, recurses := true, apart := false, narrowed := true }
def FnTightUptoSaid : Prop := fnTightUptoRow.holds Try.pinned (OpenSpec.upto fnTightSpec)

/-- 'laws.FnExactPlanTight', WHERE WHAT IT READS IS OF BULK AT MOST 1048576: true; the input reads as it did. -/
def fnExactPlanTightUptoRow : OpenClaim := { program := "ytaepgogafkmooaa", sum := "042fcdf1d8981d7d4b313b01eb9cfaab79cbdb49860146d7bc6f95c21caec1fb", func := "loop.example/floorrooms/laws.FnExactPlanTight", spec := "fnExactPlanTight", inPlace := ["internal/abi.NoEscape"], unfollowed := true, recurses := true, apart := false, narrowed := true }
def FnExactPlanTightUptoSaid : Prop := fnExactPlanTightUptoRow.holds Try.pinned (OpenSpec.upto fnExactPlanTightSpec)

end Rows
end Go.Proofs.Ytaepgogafkmooaa

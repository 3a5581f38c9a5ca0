/-
  No cell of these rows narrows 'for every input' (looked for: loops, veiled, ifaces, maps, wideKeys, modest, calm, conditions, laid).
  DERIVED. THE GIVEN ROWS OF THIS SEAT. 12 by the template 'for every input the law returns true; each argument reads behind the call as it read before'; 0 by the template 'total and deterministic' (their statements: YtoijjkhdfooapaaTotals.lean).
  GIVEN WITH THE SEED: the statements are not yours to turn. If you find one false, say at which input.
  Laid BY PROGRAM, IN A SANDBOX (cutbox-rows.mjs): the forced cells as the released guide's own fill.sh prints them over the translation 8117fcdf7aaae148… (all of the seat's roots in one cut). By AI agents, Wed Nov 11 2026. No macro, syntax, notation, axiom, sorry.
-/
import Derived.Test.YtoijjkhdfooapaaChecked
import GoSem.Claim
import GoSem.ClaimJoined
import GoSem.ClaimMapViews
import Derived.JoinedTies
import Derived.KernelRfl
namespace Go.Proofs.Ytoijjkhdfooapaa
/- THE CELL 'sum', in the pinned program and in every row, IS THE sha256 OF THE DUMP (.gsa) THAT YtoijjkhdfooapaaProg.lean LOADS. Nothing in Lean hashes anything: it is a label: what it is worth is what the hold of that sum in a sandbox is worth. -/
noncomputable def Try.pinned : Pinned := { name := "ytoijjkhdfooapaa", sum := "8117fcdf7aaae1482f3f846ce253f7496279a804b413eaa71c5a9d9dc8318510", checked := Try.checked }
namespace Rows
def none {H : Type} : Left H := { results := [], args := [] }

/-- 'laws.FnExactCutFirst': WHATEVER THE INPUT: true; the input reads as it did. -/
def fnExactCutFirstSpec : ChangeSpec := { name := "fnExactCutFirst", fn := fun _ => fun
  | [d] => { results := [.lit (.bool true)], args := [d] }
  | _ => none }
def fnExactCutFirstRow : OpenClaim := { program := "ytoijjkhdfooapaa", sum := "8117fcdf7aaae1482f3f846ce253f7496279a804b413eaa71c5a9d9dc8318510", func := "loop.example/floorrooms/laws.FnExactCutFirst", spec := "fnExactCutFirst", inPlace := ["internal/abi.NoEscape"], unfollowed := true, recurses := true, apart := false }
def FnExactCutFirstSaid : Prop := fnExactCutFirstRow.holds Try.pinned (OpenSpec.ofChange fnExactCutFirstSpec)

/-- ITS FALSE NEIGHBOUR: 'it returns false'. Refute it at one input. -/
def fnExactCutFirstWrong : ChangeSpec := { name := "fnExactCutFirst", fn := fun _ => fun
  | [d] => { results := [.lit (.bool false)], args := [d] }
  | _ => none }
def FnExactCutFirstWrongFalsely : Prop := fnExactCutFirstRow.holds Try.pinned (OpenSpec.ofChange fnExactCutFirstWrong)

/-- 'laws.FnExactCutMany': WHATEVER THE INPUT: true; the input reads as it did. -/
def fnExactCutManySpec : ChangeSpec := { name := "fnExactCutMany", fn := fun _ => fun
  | [d] => { results := [.lit (.bool true)], args := [d] }
  | _ => none }
def fnExactCutManyRow : OpenClaim := { program := "ytoijjkhdfooapaa", sum := "8117fcdf7aaae1482f3f846ce253f7496279a804b413eaa71c5a9d9dc8318510", func := "loop.example/floorrooms/laws.FnExactCutMany", spec := "fnExactCutMany", inPlace := ["internal/abi.NoEscape"], unfollowed := true, recurses := true, apart := false }
def FnExactCutManySaid : Prop := fnExactCutManyRow.holds Try.pinned (OpenSpec.ofChange fnExactCutManySpec)

/-- ITS FALSE NEIGHBOUR: 'it returns false'. Refute it at one input. -/
def fnExactCutManyWrong : ChangeSpec := { name := "fnExactCutMany", fn := fun _ => fun
  | [d] => { results := [.lit (.bool false)], args := [d] }
  | _ => none }
def FnExactCutManyWrongFalsely : Prop := fnExactCutManyRow.holds Try.pinned (OpenSpec.ofChange fnExactCutManyWrong)

/-- 'laws.FnExactWallList': WHATEVER THE INPUT: true; the input reads as it did. -/
def fnExactWallListSpec : ChangeSpec := { name := "fnExactWallList", fn := fun _ => fun
  | [d] => { results := [.lit (.bool true)], args := [d] }
  | _ => none }
def fnExactWallListRow : OpenClaim := { program := "ytoijjkhdfooapaa", sum := "8117fcdf7aaae1482f3f846ce253f7496279a804b413eaa71c5a9d9dc8318510", func := "loop.example/floorrooms/laws.FnExactWallList", spec := "fnExactWallList", inPlace := ["internal/abi.NoEscape"], unfollowed := true, recurses := true, apart := false }
def FnExactWallListSaid : Prop := fnExactWallListRow.holds Try.pinned (OpenSpec.ofChange fnExactWallListSpec)

/-- ITS FALSE NEIGHBOUR: 'it returns false'. Refute it at one input. -/
def fnExactWallListWrong : ChangeSpec := { name := "fnExactWallList", fn := fun _ => fun
  | [d] => { results := [.lit (.bool false)], args := [d] }
  | _ => none }
def FnExactWallListWrongFalsely : Prop := fnExactWallListRow.holds Try.pinned (OpenSpec.ofChange fnExactWallListWrong)

/-- 'laws.FnExactWallSides': WHATEVER THE INPUT: true; the input reads as it did. -/
def fnExactWallSidesSpec : ChangeSpec := { name := "fnExactWallSides", fn := fun _ => fun
  | [d1, d2] => { results := [.lit (.bool true)], args := [d1, d2] }
  | _ => none }
def fnExactWallSidesRow : OpenClaim := { program := "ytoijjkhdfooapaa", sum := "8117fcdf7aaae1482f3f846ce253f7496279a804b413eaa71c5a9d9dc8318510", func := "loop.example/floorrooms/laws.FnExactWallSides", spec := "fnExactWallSides", inPlace := ["internal/abi.NoEscape"], unfollowed := true, recurses := true, apart := false }
def FnExactWallSidesSaid : Prop := fnExactWallSidesRow.holds Try.pinned (OpenSpec.ofChange fnExactWallSidesSpec)

/-- ITS FALSE NEIGHBOUR: 'it returns false'. Refute it at one input. -/
def fnExactWallSidesWrong : ChangeSpec := { name := "fnExactWallSides", fn := fun _ => fun
  | [d1, d2] => { results := [.lit (.bool false)], args := [d1, d2] }
  | _ => none }
def FnExactWallSidesWrongFalsely : Prop := fnExactWallSidesRow.holds Try.pinned (OpenSpec.ofChange fnExactWallSidesWrong)

/-- 'laws.FnExactNearOut': WHATEVER THE INPUT: true; the input reads as it did. -/
def fnExactNearOutSpec : ChangeSpec := { name := "fnExactNearOut", fn := fun _ => fun
  | [d1, d2] => { results := [.lit (.bool true)], args := [d1, d2] }
  | _ => none }
def fnExactNearOutRow : OpenClaim := { program := "ytoijjkhdfooapaa", sum := "8117fcdf7aaae1482f3f846ce253f7496279a804b413eaa71c5a9d9dc8318510", func := "loop.example/floorrooms/laws.FnExactNearOut", spec := "fnExactNearOut", inPlace := ["internal/abi.NoEscape"], unfollowed := true, recurses := true, apart := false }
def FnExactNearOutSaid : Prop := fnExactNearOutRow.holds Try.pinned (OpenSpec.ofChange fnExactNearOutSpec)

/-- ITS FALSE NEIGHBOUR: 'it returns false'. Refute it at one input. -/
def fnExactNearOutWrong : ChangeSpec := { name := "fnExactNearOut", fn := fun _ => fun
  | [d1, d2] => { results := [.lit (.bool false)], args := [d1, d2] }
  | _ => none }
def FnExactNearOutWrongFalsely : Prop := fnExactNearOutRow.holds Try.pinned (OpenSpec.ofChange fnExactNearOutWrong)

/-- 'laws.FnExactNearOf': WHATEVER THE INPUT: true; the input reads as it did. -/
def fnExactNearOfSpec : ChangeSpec := { name := "fnExactNearOf", fn := fun _ => fun
  | [d1, d2] => { results := [.lit (.bool true)], args := [d1, d2] }
  | _ => none }
def fnExactNearOfRow : OpenClaim := { program := "ytoijjkhdfooapaa", sum := "8117fcdf7aaae1482f3f846ce253f7496279a804b413eaa71c5a9d9dc8318510", func := "loop.example/floorrooms/laws.FnExactNearOf", spec := "fnExactNearOf", inPlace := ["internal/abi.NoEscape"], unfollowed := true, recurses := true, apart := false }
def FnExactNearOfSaid : Prop := fnExactNearOfRow.holds Try.pinned (OpenSpec.ofChange fnExactNearOfSpec)

/-- ITS FALSE NEIGHBOUR: 'it returns false'. Refute it at one input. -/
def fnExactNearOfWrong : ChangeSpec := { name := "fnExactNearOf", fn := fun _ => fun
  | [d1, d2] => { results := [.lit (.bool false)], args := [d1, d2] }
  | _ => none }
def FnExactNearOfWrongFalsely : Prop := fnExactNearOfRow.holds Try.pinned (OpenSpec.ofChange fnExactNearOfWrong)

/-- 'laws.FnExactNearWay': WHATEVER THE INPUT: true; the input reads as it did. -/
def fnExactNearWaySpec : ChangeSpec := { name := "fnExactNearWay", fn := fun _ => fun
  | [d1, d2, d3] => { results := [.lit (.bool true)], args := [d1, d2, d3] }
  | _ => none }
def fnExactNearWayRow : OpenClaim := { program := "ytoijjkhdfooapaa", sum := "8117fcdf7aaae1482f3f846ce253f7496279a804b413eaa71c5a9d9dc8318510", func := "loop.example/floorrooms/laws.FnExactNearWay", spec := "fnExactNearWay", inPlace := ["internal/abi.NoEscape"], unfollowed := true, recurses := true, apart := false }
def FnExactNearWaySaid : Prop := fnExactNearWayRow.holds Try.pinned (OpenSpec.ofChange fnExactNearWaySpec)

/-- ITS FALSE NEIGHBOUR: 'it returns false'. Refute it at one input. -/
def fnExactNearWayWrong : ChangeSpec := { name := "fnExactNearWay", fn := fun _ => fun
  | [d1, d2, d3] => { results := [.lit (.bool false)], args := [d1, d2, d3] }
  | _ => none }
def FnExactNearWayWrongFalsely : Prop := fnExactNearWayRow.holds Try.pinned (OpenSpec.ofChange fnExactNearWayWrong)

/-- 'laws.FnExactNearFar': WHATEVER THE INPUT: true; the input reads as it did. -/
def fnExactNearFarSpec : ChangeSpec := { name := "fnExactNearFar", fn := fun _ => fun
  | [d] => { results := [.lit (.bool true)], args := [d] }
  | _ => none }
def fnExactNearFarRow : OpenClaim := { program := "ytoijjkhdfooapaa", sum := "8117fcdf7aaae1482f3f846ce253f7496279a804b413eaa71c5a9d9dc8318510", func := "loop.example/floorrooms/laws.FnExactNearFar", spec := "fnExactNearFar", inPlace := ["internal/abi.NoEscape"], unfollowed := true, recurses := true, apart := false }
def FnExactNearFarSaid : Prop := fnExactNearFarRow.holds Try.pinned (OpenSpec.ofChange fnExactNearFarSpec)

/-- ITS FALSE NEIGHBOUR: 'it returns false'. Refute it at one input. -/
def fnExactNearFarWrong : ChangeSpec := { name := "fnExactNearFar", fn := fun _ => fun
  | [d] => { results := [.lit (.bool false)], args := [d] }
  | _ => none }
def FnExactNearFarWrongFalsely : Prop := fnExactNearFarRow.holds Try.pinned (OpenSpec.ofChange fnExactNearFarWrong)

/-- 'laws.FnExactNearFirst': WHATEVER THE INPUT: true; the input reads as it did. -/
def fnExactNearFirstSpec : ChangeSpec := { name := "fnExactNearFirst", fn := fun _ => fun
  | [d] => { results := [.lit (.bool true)], args := [d] }
  | _ => none }
def fnExactNearFirstRow : OpenClaim := { program := "ytoijjkhdfooapaa", sum := "8117fcdf7aaae1482f3f846ce253f7496279a804b413eaa71c5a9d9dc8318510", func := "loop.example/floorrooms/laws.FnExactNearFirst", spec := "fnExactNearFirst", inPlace := ["internal/abi.NoEscape"], unfollowed := true, recurses := true, apart := false }
def FnExactNearFirstSaid : Prop := fnExactNearFirstRow.holds Try.pinned (OpenSpec.ofChange fnExactNearFirstSpec)

/-- ITS FALSE NEIGHBOUR: 'it returns false'. Refute it at one input. -/
def fnExactNearFirstWrong : ChangeSpec := { name := "fnExactNearFirst", fn := fun _ => fun
  | [d] => { results := [.lit (.bool false)], args := [d] }
  | _ => none }
def FnExactNearFirstWrongFalsely : Prop := fnExactNearFirstRow.holds Try.pinned (OpenSpec.ofChange fnExactNearFirstWrong)

/-- 'laws.FnExactNearColours': WHATEVER THE INPUT: true; the input reads as it did. -/
def fnExactNearColoursSpec : ChangeSpec := { name := "fnExactNearColours", fn := fun _ => fun
  | [d] => { results := [.lit (.bool true)], args := [d] }
  | _ => none }
def fnExactNearColoursRow : OpenClaim := { program := "ytoijjkhdfooapaa", sum := "8117fcdf7aaae1482f3f846ce253f7496279a804b413eaa71c5a9d9dc8318510", func := "loop.example/floorrooms/laws.FnExactNearColours", spec := "fnExactNearColours", inPlace := ["internal/abi.NoEscape"], unfollowed := true, recurses := true, apart := false }
def FnExactNearColoursSaid : Prop := fnExactNearColoursRow.holds Try.pinned (OpenSpec.ofChange fnExactNearColoursSpec)

/-- ITS FALSE NEIGHBOUR: 'it returns false'. Refute it at one input. -/
def fnExactNearColoursWrong : ChangeSpec := { name := "fnExactNearColours", fn := fun _ => fun
  | [d] => { results := [.lit (.bool false)], args := [d] }
  | _ => none }
def FnExactNearColoursWrongFalsely : Prop := fnExactNearColoursRow.holds Try.pinned (OpenSpec.ofChange fnExactNearColoursWrong)

/-- 'laws.FnNear': WHATEVER THE INPUT: true; the input reads as it did. -/
def fnNearSpec : ChangeSpec := { name := "fnNear", fn := fun _ => fun
  | [d] => { results := [.lit (.bool true)], args := [d] }
  | _ => none }
def fnNearRow : OpenClaim := { program := "ytoijjkhdfooapaa", sum := "8117fcdf7aaae1482f3f846ce253f7496279a804b413eaa71c5a9d9dc8318510", func := "loop.example/floorrooms/laws.FnNear", spec := "fnNear", inPlace := ["internal/abi.NoEscape"], unfollowed := true, recurses := true, apart := false }
def FnNearSaid : Prop := fnNearRow.holds Try.pinned (OpenSpec.ofChange fnNearSpec)

/-- ITS FALSE NEIGHBOUR: 'it returns false'. Refute it at one input. -/
def fnNearWrong : ChangeSpec := { name := "fnNear", fn := fun _ => fun
  | [d] => { results := [.lit (.bool false)], args := [d] }
  | _ => none }
def FnNearWrongFalsely : Prop := fnNearRow.holds Try.pinned (OpenSpec.ofChange fnNearWrong)

/-- 'laws.FnNearLength': WHATEVER THE INPUT: true; the input reads as it did. -/
def fnNearLengthSpec : ChangeSpec := { name := "fnNearLength", fn := fun _ => fun
  | [d] => { results := [.lit (.bool true)], args := [d] }
  | _ => none }
def fnNearLengthRow : OpenClaim := { program := "ytoijjkhdfooapaa", sum := "8117fcdf7aaae1482f3f846ce253f7496279a804b413eaa71c5a9d9dc8318510", func := "loop.example/floorrooms/laws.FnNearLength", spec := "fnNearLength", inPlace := ["internal/abi.NoEscape"], unfollowed := true, recurses := true, apart := false }
def FnNearLengthSaid : Prop := fnNearLengthRow.holds Try.pinned (OpenSpec.ofChange fnNearLengthSpec)

/-- ITS FALSE NEIGHBOUR: 'it returns false'. Refute it at one input. -/
def fnNearLengthWrong : ChangeSpec := { name := "fnNearLength", fn := fun _ => fun
  | [d] => { results := [.lit (.bool false)], args := [d] }
  | _ => none }
def FnNearLengthWrongFalsely : Prop := fnNearLengthRow.holds Try.pinned (OpenSpec.ofChange fnNearLengthWrong)

/- THE SECOND FORM. 'bulk': how many values and letters a reading holds, each counted each time it is reached (what is shared counts as often as it is met; a slice's spare places count too). A statement '..UptoSaid' is the law's where the arguments, and the package variables that the reading takes, are together of bulk at most 1048576: NARROWER than '..Said'. Prove '..Said' where nothing that the law and all that it calls make is longer than what came in: it says more and counts as full. Else prove '..UptoSaid'. A law counts once. -/
mutual
def uptoBulk {H : Type} : DataW H → Nat
  | .lit (.string bytes) => bytes.length + 1
  | .lit _ => 1
  | .nil => 1
  | .ptr d => uptoBulk d + 1
  | .slice elems spare => uptoBulkAll elems + uptoBulkAll spare + 1
  | .agg parts => uptoBulkAll parts + 1
  | .iface _ d => uptoBulk d + 1
  | .map entries => uptoBulkEntries entries + 1
  | .held _ => 1
def uptoBulkAll {H : Type} : List (DataW H) → Nat
  | [] => 0
  | d :: r => uptoBulk d + uptoBulkAll r
def uptoBulkEntries {H : Type} : List (Lit × DataW H) → Nat
  | [] => 0
  | x :: r => uptoBulkEntry x + uptoBulkEntries r
def uptoBulkEntry {H : Type} : Lit × DataW H → Nat
  | (.string bytes, d) => bytes.length + uptoBulk d + 1
  | (_, d) => uptoBulk d + 1
 end
def uptoSmall : (H : Type) → List (DataW H) → Bool := fun _ ds => decide (uptoBulkAll ds ≤ 1048576)
def OpenSpec.upto (s : _root_.Go.ChangeSpec) : _root_.Go.OpenSpec := { _root_.Go.OpenSpec.ofChange s with cond := some uptoSmall }

/-- 'laws.FnExactCutFirst', WHERE WHAT IT READS IS OF BULK AT MOST 1048576: true; the input reads as it did. -/
def fnExactCutFirstUptoRow : OpenClaim := { program := "ytoijjkhdfooapaa", sum := "8117fcdf7aaae1482f3f846ce253f7496279a804b413eaa71c5a9d9dc8318510", func := "loop.example/floorrooms/laws.FnExactCutFirst", spec := "fnExactCutFirst", inPlace := ["internal/abi.NoEscape"], unfollowed := true, recurses := true, apart := false, narrowed := true }
def FnExactCutFirstUptoSaid : Prop := fnExactCutFirstUptoRow.holds Try.pinned (OpenSpec.upto fnExactCutFirstSpec)

/-- 'laws.FnExactCutMany', WHERE WHAT IT READS IS OF BULK AT MOST 1048576: true; the input reads as it did. -/
def fnExactCutManyUptoRow : OpenClaim := { program := "ytoijjkhdfooapaa", sum := "8117fcdf7aaae1482f3f846ce253f7496279a804b413eaa71c5a9d9dc8318510", func := "loop.example/floorrooms/laws.FnExactCutMany", spec := "fnExactCutMany", inPlace := ["internal/abi.NoEscape"], unfollowed := true, recurses := true, apart := false, narrowed := true }
def FnExactCutManyUptoSaid : Prop := fnExactCutManyUptoRow.holds Try.pinned (OpenSpec.upto fnExactCutManySpec)

/-- 'laws.FnExactWallList', WHERE WHAT IT READS IS OF BULK AT MOST 1048576: true; the input reads as it did. -/
def fnExactWallListUptoRow : OpenClaim := { program := "ytoijjkhdfooapaa", sum := "8117fcdf7aaae1482f3f846ce253f7496279a804b413eaa71c5a9d9dc8318510", func := "loop.example/floorrooms/laws.FnExactWallList", spec := "fnExactWallList", inPlace := ["internal/abi.NoEscape"], unfollowed := true, recurses := true, apart := false, narrowed := true }
def FnExactWallListUptoSaid : Prop := fnExactWallListUptoRow.holds Try.pinned (OpenSpec.upto fnExactWallListSpec)

/-- 'laws.FnExactWallSides', WHERE WHAT IT READS IS OF BULK AT MOST 1048576: true; the input reads as it did. -/
def fnExactWallSidesUptoRow : OpenClaim := { program := "ytoijjkhdfooapaa", sum := "8117fcdf7aaae1482f3f846ce253f7496279a804b413eaa71c5a9d9dc8318510", func := "loop.example/floorrooms/laws.FnExactWallSides", spec := "fnExactWallSides", inPlace := ["internal/abi.NoEscape"], unfollowed := true, recurses := true, apart := false, narrowed := true }
def FnExactWallSidesUptoSaid : Prop := fnExactWallSidesUptoRow.holds Try.pinned (OpenSpec.upto fnExactWallSidesSpec)

/-- 'laws.FnExactNearOut', WHERE WHAT IT READS IS OF BULK AT MOST 1048576: true; the input reads as it did. -/
def fnExactNearOutUptoRow : OpenClaim := { program := "ytoijjkhdfooapaa", sum := "8117fcdf7aaae1482f3f846ce253f7496279a804b413eaa71c5a9d9dc8318510", func := "loop.example/floorrooms/laws.FnExactNearOut", spec := "fnExactNearOut", inPlace := ["internal/abi.NoEscape"], unfollowed := true, recurses := true, apart := false, narrowed := true }
def FnExactNearOutUptoSaid : Prop := fnExactNearOutUptoRow.holds Try.pinned (OpenSpec.upto fnExactNearOutSpec)

/-- 'laws.FnExactNearOf', WHERE WHAT IT READS IS OF BULK AT MOST 1048576: true; the input reads as it did. -/
def fnExactNearOfUptoRow : OpenClaim := { program := "ytoijjkhdfooapaa", sum := "8117fcdf7aaae1482f3f846ce253f7496279a804b413eaa71c5a9d9dc8318510", func := "loop.example/floorrooms/laws.FnExactNearOf", spec := "fnExactNearOf", inPlace := ["internal/abi.NoEscape"], unfollowed := true, recurses := true, apart := false, narrowed := true }
def FnExactNearOfUptoSaid : Prop := fnExactNearOfUptoRow.holds Try.pinned (OpenSpec.upto fnExactNearOfSpec)

/-- 'laws.FnExactNearWay', WHERE WHAT IT READS IS OF BULK AT MOST 1048576: true; the input reads as it did. -/
def fnExactNearWayUptoRow : OpenClaim := { program := "ytoijjkhdfooapaa", sum := "8117fcdf7aaae1482f3f846ce253f7496279a804b413eaa71c5a9d9dc8318510", func := "loop.example/floorrooms/laws.FnExactNearWay", spec := "fnExactNearWay", inPlace := ["internal/abi.NoEscape"], unfollowed := true, recurses := true, apart := false, narrowed := true }
def FnExactNearWayUptoSaid : Prop := fnExactNearWayUptoRow.holds Try.pinned (OpenSpec.upto fnExactNearWaySpec)

/-- 'laws.FnExactNearFar', WHERE WHAT IT READS IS OF BULK AT MOST 1048576: true; the input reads as it did. -/
def fnExactNearFarUptoRow : OpenClaim := { program := "ytoijjkhdfooapaa", sum := "8117fcdf7aaae1482f3f846ce253f7496279a804b413eaa71c5a9d9dc8318510", func := "loop.example/floorrooms/laws.FnExactNearFar", spec := "fnExactNearFar", inPlace := ["internal/abi.NoEscape"], unfollowed := true, recurses := true, apart := false, narrowed := true }
def FnExactNearFarUptoSaid : Prop := fnExactNearFarUptoRow.holds Try.pinned (OpenSpec.upto fnExactNearFarSpec)

/-- 'laws.FnExactNearFirst', WHERE WHAT IT READS IS OF BULK AT MOST 1048576: true; the input reads as it did. -/
def fnExactNearFirstUptoRow : OpenClaim := { program := "ytoijjkhdfooapaa", sum := "8117fcdf7aaae1482f3f846ce253f7496279a804b413eaa71c5a9d9dc8318510", func := "loop.example/floorrooms/laws.FnExactNearFirst", spec := "fnExactNearFirst", inPlace := ["internal/abi.NoEscape"], unfollowed := true, recurses := true, apart := false, narrowed := true }
def FnExactNearFirstUptoSaid : Prop := fnExactNearFirstUptoRow.holds Try.pinned (OpenSpec.upto fnExactNearFirstSpec)

/-- 'laws.FnExactNearColours', WHERE WHAT IT READS IS OF BULK AT MOST 1048576: true; the input reads as it did. -/
def fnExactNearColoursUptoRow : OpenClaim := { program := "ytoijjkhdfooapaa", sum := "8117fcdf7aaae1482f3f846ce253f7496279a804b413eaa71c5a9d9dc8318510", func := "loop.example/floorrooms/laws.FnExactNearColours", spec := "fnExactNearColours", inPlace := ["internal/abi.NoEscape"], unfollowed := true, recurses := true, apart := false, narrowed := true }
def FnExactNearColoursUptoSaid : Prop := fnExactNearColoursUptoRow.holds Try.pinned (OpenSpec.upto fnExactNearColoursSpec)

/-- 'laws.FnNear', WHERE WHAT IT READS IS OF BULK AT MOST 1048576: true; the input reads as it did. -/
def fnNearUptoRow : OpenClaim := { program := "ytoijjkhdfooapaa", sum := "8117fcdf7aaae1482f3f846ce253f7496279a804b413eaa71c5a9d9dc8318510", func := "loop.example/floorrooms/laws.FnNear", spec := "fnNear", inPlace := ["internal/abi.NoEscape"], unfollowed := true, recurses := true, apart := false, narrowed := true }
def FnNearUptoSaid : Prop := fnNearUptoRow.holds Try.pinned (OpenSpec.upto fnNearSpec)

/-- 'laws.FnNearLength', WHERE WHAT IT READS IS OF BULK AT MOST 1048576: true; the input reads as it did. -/
def fnNearLengthUptoRow : OpenClaim := { program := "ytoijjkhdfooapaa", sum := "8117fcdf7aaae1482f3f846ce253f7496279a804b413eaa71c5a9d9dc8318510", func := "loop.example/floorrooms/laws.FnNearLength", spec := "fnNearLength", inPlace := ["internal/abi.NoEscape"], unfollowed := true, recurses := true, apart := false, narrowed := true }
def FnNearLengthUptoSaid : Prop := fnNearLengthUptoRow.holds Try.pinned (OpenSpec.upto fnNearLengthSpec)

end Rows
end Go.Proofs.Ytoijjkhdfooapaa

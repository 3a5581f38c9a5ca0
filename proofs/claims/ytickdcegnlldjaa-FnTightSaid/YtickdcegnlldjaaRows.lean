/-
  No cell of these rows narrows 'for every input' (looked for: loops, veiled, ifaces, maps, wideKeys, modest, calm, conditions, laid).
  DERIVED. THE GIVEN ROWS OF THIS SEAT. 9 by the template 'for every input the law returns true; each argument reads behind the call as it read before'; 0 by the template 'total and deterministic' (their statements: YtickdcegnlldjaaTotals.lean).
  GIVEN WITH THE SEED: the statements are not yours to turn. If you find one false, say at which input.
  Laid BY PROGRAM, IN A SANDBOX (cutbox-rows.mjs): the forced cells as the released guide's own fill.sh prints them over the translation bfe6d8ee59b43549… (all of the seat's roots in one cut). By AI agents, Wed Nov 11 2026. No macro, syntax, notation, axiom, sorry.
-/
import Derived.Test.YtickdcegnlldjaaChecked
import GoSem.Claim
import GoSem.ClaimJoined
import GoSem.ClaimMapViews
import Derived.JoinedTies
import Derived.KernelRfl
namespace Go.Proofs.Ytickdcegnlldjaa
/- THE CELL 'sum', in the pinned program and in every row, IS THE sha256 OF THE DUMP (.gsa) THAT YtickdcegnlldjaaProg.lean LOADS. Nothing in Lean hashes anything: it is a label: what it is worth is what the hold of that sum in a sandbox is worth. -/
noncomputable def Try.pinned : Pinned := { name := "ytickdcegnlldjaa", sum := "bfe6d8ee59b435493619f9fcfbd9985744ba98dd4758c6cff6d37d49c2d802fd", checked := Try.checked }
namespace Rows
def none {H : Type} : Left H := { results := [], args := [] }

/-- 'laws.FnExactNearOut': WHATEVER THE INPUT: true; the input reads as it did. -/
def fnExactNearOutSpec : ChangeSpec := { name := "fnExactNearOut", fn := fun _ => fun
  | [d1, d2] => { results := [.lit (.bool true)], args := [d1, d2] }
  | _ => none }
def fnExactNearOutRow : OpenClaim := { program := "ytickdcegnlldjaa", sum := "bfe6d8ee59b435493619f9fcfbd9985744ba98dd4758c6cff6d37d49c2d802fd", func := "loop.example/floorrooms/laws.FnExactNearOut", spec := "fnExactNearOut", inPlace := ["internal/abi.NoEscape"], unfollowed := true, recurses := true, apart := false }
def FnExactNearOutSaid : Prop := fnExactNearOutRow.holds Try.pinned (OpenSpec.ofChange fnExactNearOutSpec)

/-- ITS FALSE NEIGHBOUR: 'it returns false'. Refute it at one input. -/
def fnExactNearOutWrong : ChangeSpec := { name := "fnExactNearOut", fn := fun _ => fun
  | [d1, d2] => { results := [.lit (.bool false)], args := [d1, d2] }
  | _ => none }
def FnExactNearOutWrongFalsely : Prop := fnExactNearOutRow.holds Try.pinned (OpenSpec.ofChange fnExactNearOutWrong)

/-- 'laws.FnNearOut': WHATEVER THE INPUT: true; the input reads as it did. -/
def fnNearOutSpec : ChangeSpec := { name := "fnNearOut", fn := fun _ => fun
  | [d] => { results := [.lit (.bool true)], args := [d] }
  | _ => none }
def fnNearOutRow : OpenClaim := { program := "ytickdcegnlldjaa", sum := "bfe6d8ee59b435493619f9fcfbd9985744ba98dd4758c6cff6d37d49c2d802fd", func := "loop.example/floorrooms/laws.FnNearOut", spec := "fnNearOut", inPlace := ["internal/abi.NoEscape"], unfollowed := true, recurses := true, apart := false }
def FnNearOutSaid : Prop := fnNearOutRow.holds Try.pinned (OpenSpec.ofChange fnNearOutSpec)

/-- ITS FALSE NEIGHBOUR: 'it returns false'. Refute it at one input. -/
def fnNearOutWrong : ChangeSpec := { name := "fnNearOut", fn := fun _ => fun
  | [d] => { results := [.lit (.bool false)], args := [d] }
  | _ => none }
def FnNearOutWrongFalsely : Prop := fnNearOutRow.holds Try.pinned (OpenSpec.ofChange fnNearOutWrong)

/-- 'laws.FnEnds': WHATEVER THE INPUT: true; the input reads as it did. -/
def fnEndsSpec : ChangeSpec := { name := "fnEnds", fn := fun _ => fun
  | [d] => { results := [.lit (.bool true)], args := [d] }
  | _ => none }
def fnEndsRow : OpenClaim := { program := "ytickdcegnlldjaa", sum := "bfe6d8ee59b435493619f9fcfbd9985744ba98dd4758c6cff6d37d49c2d802fd", func := "loop.example/floorrooms/laws.FnEnds", spec := "fnEnds", inPlace := ["internal/abi.NoEscape"], unfollowed := true, recurses := true, apart := false }
def FnEndsSaid : Prop := fnEndsRow.holds Try.pinned (OpenSpec.ofChange fnEndsSpec)

/-- ITS FALSE NEIGHBOUR: 'it returns false'. Refute it at one input. -/
def fnEndsWrong : ChangeSpec := { name := "fnEnds", fn := fun _ => fun
  | [d] => { results := [.lit (.bool false)], args := [d] }
  | _ => none }
def FnEndsWrongFalsely : Prop := fnEndsRow.holds Try.pinned (OpenSpec.ofChange fnEndsWrong)

/-- 'laws.FnExactWallList': WHATEVER THE INPUT: true; the input reads as it did. -/
def fnExactWallListSpec : ChangeSpec := { name := "fnExactWallList", fn := fun _ => fun
  | [d] => { results := [.lit (.bool true)], args := [d] }
  | _ => none }
def fnExactWallListRow : OpenClaim := { program := "ytickdcegnlldjaa", sum := "bfe6d8ee59b435493619f9fcfbd9985744ba98dd4758c6cff6d37d49c2d802fd", func := "loop.example/floorrooms/laws.FnExactWallList", spec := "fnExactWallList", inPlace := ["internal/abi.NoEscape"], unfollowed := true, recurses := true, apart := false }
def FnExactWallListSaid : Prop := fnExactWallListRow.holds Try.pinned (OpenSpec.ofChange fnExactWallListSpec)

/-- ITS FALSE NEIGHBOUR: 'it returns false'. Refute it at one input. -/
def fnExactWallListWrong : ChangeSpec := { name := "fnExactWallList", fn := fun _ => fun
  | [d] => { results := [.lit (.bool false)], args := [d] }
  | _ => none }
def FnExactWallListWrongFalsely : Prop := fnExactWallListRow.holds Try.pinned (OpenSpec.ofChange fnExactWallListWrong)

/-- 'laws.FnExactPlanTight': WHATEVER THE INPUT: true; the input reads as it did. -/
def fnExactPlanTightSpec : ChangeSpec := { name := "fnExactPlanTight", fn := fun _ => fun
  | [d] => { results := [.lit (.bool true)], args := [d] }
  | _ => none }
def fnExactPlanTightRow : OpenClaim := { program := "ytickdcegnlldjaa", sum := "bfe6d8ee59b435493619f9fcfbd9985744ba98dd4758c6cff6d37d49c2d802fd", func := "loop.example/floorrooms/laws.FnExactPlanTight", spec := "fnExactPlanTight", inPlace := ["internal/abi.NoEscape"], unfollowed := true, recurses := true, apart := false }
def FnExactPlanTightSaid : Prop := fnExactPlanTightRow.holds Try.pinned (OpenSpec.ofChange fnExactPlanTightSpec)

/-- ITS FALSE NEIGHBOUR: 'it returns false'. Refute it at one input. -/
def fnExactPlanTightWrong : ChangeSpec := { name := "fnExactPlanTight", fn := fun _ => fun
  | [d] => { results := [.lit (.bool false)], args := [d] }
  | _ => none }
def FnExactPlanTightWrongFalsely : Prop := fnExactPlanTightRow.holds Try.pinned (OpenSpec.ofChange fnExactPlanTightWrong)

/-- 'laws.FnTight': WHATEVER THE INPUT: true; the input reads as it did. -/
def fnTightSpec : ChangeSpec := { name := "fnTight", fn := fun _ => fun
  | [d] => { results := [.lit (.bool true)], args := [d] }
  | _ => none }
def fnTightRow : OpenClaim := { program := "ytickdcegnlldjaa", sum := "bfe6d8ee59b435493619f9fcfbd9985744ba98dd4758c6cff6d37d49c2d802fd", func := "loop.example/floorrooms/laws.FnTight", spec := "fnTight", inPlace := ["internal/abi.NoEscape"], unfollowed := true, recurses := true, apart := false }
def FnTightSaid : Prop := fnTightRow.holds Try.pinned (OpenSpec.ofChange fnTightSpec)

/-- ITS FALSE NEIGHBOUR: 'it returns false'. Refute it at one input. -/
def fnTightWrong : ChangeSpec := { name := "fnTight", fn := fun _ => fun
  | [d] => { results := [.lit (.bool false)], args := [d] }
  | _ => none }
def FnTightWrongFalsely : Prop := fnTightRow.holds Try.pinned (OpenSpec.ofChange fnTightWrong)

/-- 'laws.FnExactNearFirst': WHATEVER THE INPUT: true; the input reads as it did. -/
def fnExactNearFirstSpec : ChangeSpec := { name := "fnExactNearFirst", fn := fun _ => fun
  | [d] => { results := [.lit (.bool true)], args := [d] }
  | _ => none }
def fnExactNearFirstRow : OpenClaim := { program := "ytickdcegnlldjaa", sum := "bfe6d8ee59b435493619f9fcfbd9985744ba98dd4758c6cff6d37d49c2d802fd", func := "loop.example/floorrooms/laws.FnExactNearFirst", spec := "fnExactNearFirst", inPlace := ["internal/abi.NoEscape"], unfollowed := true, recurses := true, apart := false }
def FnExactNearFirstSaid : Prop := fnExactNearFirstRow.holds Try.pinned (OpenSpec.ofChange fnExactNearFirstSpec)

/-- ITS FALSE NEIGHBOUR: 'it returns false'. Refute it at one input. -/
def fnExactNearFirstWrong : ChangeSpec := { name := "fnExactNearFirst", fn := fun _ => fun
  | [d] => { results := [.lit (.bool false)], args := [d] }
  | _ => none }
def FnExactNearFirstWrongFalsely : Prop := fnExactNearFirstRow.holds Try.pinned (OpenSpec.ofChange fnExactNearFirstWrong)

/-- 'laws.FnExactNearColours': WHATEVER THE INPUT: true; the input reads as it did. -/
def fnExactNearColoursSpec : ChangeSpec := { name := "fnExactNearColours", fn := fun _ => fun
  | [d] => { results := [.lit (.bool true)], args := [d] }
  | _ => none }
def fnExactNearColoursRow : OpenClaim := { program := "ytickdcegnlldjaa", sum := "bfe6d8ee59b435493619f9fcfbd9985744ba98dd4758c6cff6d37d49c2d802fd", func := "loop.example/floorrooms/laws.FnExactNearColours", spec := "fnExactNearColours", inPlace := ["internal/abi.NoEscape"], unfollowed := true, recurses := true, apart := false }
def FnExactNearColoursSaid : Prop := fnExactNearColoursRow.holds Try.pinned (OpenSpec.ofChange fnExactNearColoursSpec)

/-- ITS FALSE NEIGHBOUR: 'it returns false'. Refute it at one input. -/
def fnExactNearColoursWrong : ChangeSpec := { name := "fnExactNearColours", fn := fun _ => fun
  | [d] => { results := [.lit (.bool false)], args := [d] }
  | _ => none }
def FnExactNearColoursWrongFalsely : Prop := fnExactNearColoursRow.holds Try.pinned (OpenSpec.ofChange fnExactNearColoursWrong)

/-- 'laws.FnColours': WHATEVER THE INPUT: true; the input reads as it did. -/
def fnColoursSpec : ChangeSpec := { name := "fnColours", fn := fun _ => fun
  | [d] => { results := [.lit (.bool true)], args := [d] }
  | _ => none }
def fnColoursRow : OpenClaim := { program := "ytickdcegnlldjaa", sum := "bfe6d8ee59b435493619f9fcfbd9985744ba98dd4758c6cff6d37d49c2d802fd", func := "loop.example/floorrooms/laws.FnColours", spec := "fnColours", inPlace := ["internal/abi.NoEscape"], unfollowed := true, recurses := true, apart := false }
def FnColoursSaid : Prop := fnColoursRow.holds Try.pinned (OpenSpec.ofChange fnColoursSpec)

/-- ITS FALSE NEIGHBOUR: 'it returns false'. Refute it at one input. -/
def fnColoursWrong : ChangeSpec := { name := "fnColours", fn := fun _ => fun
  | [d] => { results := [.lit (.bool false)], args := [d] }
  | _ => none }
def FnColoursWrongFalsely : Prop := fnColoursRow.holds Try.pinned (OpenSpec.ofChange fnColoursWrong)

/- THE SECOND FORM. 'bulk': how many values and letters a reading holds, each counted each time it is reached (what is shared counts as often as it is met; a slice's spare places count too). A statement '..UptoSaid' is the law's where the arguments, and the package variables that the reading takes, are together of bulk at most 1048576: NARROWER than '..Said'. Prove '..Said' where nothing that the law and all that it calls make is longer than what came in: it says more and counts as full. Else prove '..UptoSaid'. A law counts once. -/
mutual
def uptoBulk {H : Type} : DataW H → Nat
  | .lit (.string bytes) => bytes.length + 1
  | .lit _ => 1
  | .nil => 1
  | .ptr d => uptoBulk d + 1
  | .slice elems spare => uptoBulkAll elems + uptoBulkAll spare + 1
  | .agg parts => uptoBulkAll parts + 1
  | .iface _ d => uptoBulk d + 1
  | .map entries => uptoBulkEntries entries + 1
  | .held _ => 1
def uptoBulkAll {H : Type} : List (DataW H) → Nat
  | [] => 0
  | d :: r => uptoBulk d + uptoBulkAll r
def uptoBulkEntries {H : Type} : List (Lit × DataW H) → Nat
  | [] => 0
  | x :: r => uptoBulkEntry x + uptoBulkEntries r
def uptoBulkEntry {H : Type} : Lit × DataW H → Nat
  | (.string bytes, d) => bytes.length + uptoBulk d + 1
  | (_, d) => uptoBulk d + 1
 end
def uptoSmall : (H : Type) → List (DataW H) → Bool := fun _ ds => decide (uptoBulkAll ds ≤ 1048576)
def OpenSpec.upto (s : _root_.Go.ChangeSpec) : _root_.Go.OpenSpec := { _root_.Go.OpenSpec.ofChange s with cond := some uptoSmall }

/-- 'laws.FnExactNearOut', WHERE WHAT IT READS IS OF BULK AT MOST 1048576: true; the input reads as it did. -/
def fnExactNearOutUptoRow : OpenClaim := { program := "ytickdcegnlldjaa", sum := "bfe6d8ee59b435493619f9fcfbd9985744ba98dd4758c6cff6d37d49c2d802fd", func := "loop.example/floorrooms/laws.FnExactNearOut", spec := "fnExactNearOut", inPlace := ["internal/abi.NoEscape"], unfollowed := true, recurses := true, apart := false, narrowed := true }
def FnExactNearOutUptoSaid : Prop := fnExactNearOutUptoRow.holds Try.pinned (OpenSpec.upto fnExactNearOutSpec)

/-- 'laws.FnNearOut', WHERE WHAT IT READS IS OF BULK AT MOST 1048576: true; the input reads as it did. -/
def fnNearOutUptoRow : OpenClaim := { program := "ytickdcegnlldjaa", sum := "bfe6d8ee59b435493619f9fcfbd9985744ba98dd4758c6cff6d37d49c2d802fd", func := "loop.example/floorrooms/laws.FnNearOut", spec := "fnNearOut", inPlace := ["internal/abi.NoEscape"], unfollowed := true, recurses := true, apart := false, narrowed := true }
def FnNearOutUptoSaid : Prop := fnNearOutUptoRow.holds Try.pinned (OpenSpec.upto fnNearOutSpec)

/-- 'laws.FnEnds', WHERE WHAT IT READS IS OF BULK AT MOST 1048576: true; the input reads as it did. -/
def fnEndsUptoRow : OpenClaim := { program := "ytickdcegnlldjaa", sum := "bfe6d8ee59b435493619f9fcfbd9985744ba98dd4758c6cff6d37d49c2d802fd", func := "loop.example/floorrooms/laws.FnEnds", spec := "fnEnds", inPlace := ["internal/abi.NoEscape"], unfollowed := true, recurses := true, apart := false, narrowed := true }
def FnEndsUptoSaid : Prop := fnEndsUptoRow.holds Try.pinned (OpenSpec.upto fnEndsSpec)

/-- 'laws.FnExactWallList', WHERE WHAT IT READS IS OF BULK AT MOST 1048576: true; the input reads as it did. -/
def fnExactWallListUptoRow : OpenClaim := { program := "ytickdcegnlldjaa", sum := "bfe6d8ee59b435493619f9fcfbd9985744ba98dd4758c6cff6d37d49c2d802fd", func := "loop.example/floorrooms/laws.FnExactWallList", spec := "fnExactWallList", inPlace := ["internal/abi.NoEscape"], unfollowed := true, recurses := true, apart := false, narrowed := true }
def FnExactWallListUptoSaid : Prop := fnExactWallListUptoRow.holds Try.pinned (OpenSpec.upto fnExactWallListSpec)

/-- 'laws.FnExactPlanTight', WHERE WHAT IT READS IS OF BULK AT MOST 1048576: true; the input reads as it did. -/
def fnExactPlanTightUptoRow : OpenClaim := { program := "ytickdcegnlldjaa", sum := "bfe6d8ee59b435493619f9fcfbd9985744ba98dd4758c6cff6d37d49c2d802fd", func := "loop.example/floorrooms/laws.FnExactPlanTight", spec := "fnExactPlanTight", inPlace := ["internal/abi.NoEscape"], unfollowed := true, recurses := true, apart := false, narrowed := true }
def FnExactPlanTightUptoSaid : Prop := fnExactPlanTightUptoRow.holds Try.pinned (OpenSpec.upto fnExactPlanTightSpec)

/-- 'laws.FnTight', WHERE WHAT IT READS IS OF BULK AT MOST 1048576: true; the input reads as it did. -/
def fnTightUptoRow : OpenClaim := { program := "ytickdcegnlldjaa", sum := "bfe6d8ee59b435493619f9fcfbd9985744ba98dd4758c6cff6d37d49c2d802fd", func := "loop.example/floorrooms/laws.FnTight", spec := "fnTight", inPlace := ["internal/abi.NoEscape"], unfollowed := true, recurses := true, apart := false, narrowed := true }
def FnTightUptoSaid : Prop := fnTightUptoRow.holds Try.pinned (OpenSpec.upto fnTightSpec)

/-- 'laws.FnExactNearFirst', WHERE WHAT IT READS IS OF BULK AT MOST 1048576: true; the input reads as it did. -/
def fnExactNearFirstUptoRow : OpenClaim := { program := "ytickdcegnlldjaa", sum := "bfe6d8ee59b435493619f9fcfbd9985744ba98dd4758c6cff6d37d49c2d802fd", func := "loop.example/floorrooms/laws.FnExactNearFirst", spec := "fnExactNearFirst", inPlace := ["internal/abi.NoEscape"], unfollowed := true, recurses := true, apart := false, narrowed := true }
def FnExactNearFirstUptoSaid : Prop := fnExactNearFirstUptoRow.holds Try.pinned (OpenSpec.upto fnExactNearFirstSpec)

/-- 'laws.FnExactNearColours', WHERE WHAT IT READS IS OF BULK AT MOST 1048576: true; the input reads as it did. -/
def fnExactNearColoursUptoRow : OpenClaim := { program := "ytickdcegnlldjaa", sum := "bfe6d8ee59b435493619f9fcfbd9985744ba98dd4758c6cff6d37d49c2d802fd", func := "loop.example/floorrooms/laws.FnExactNearColours", spec := "fnExactNearColours", inPlace := ["internal/abi.NoEscape"], unfollowed := true, recurses := true, apart := false, narrowed := true }
def FnExactNearColoursUptoSaid : Prop := fnExactNearColoursUptoRow.holds Try.pinned (OpenSpec.upto fnExactNearColoursSpec)

/-- 'laws.FnColours', WHERE WHAT IT READS IS OF BULK AT MOST 1048576: true; the input reads as it did. -/
def fnColoursUptoRow : OpenClaim := { program := "ytickdcegnlldjaa", sum := "bfe6d8ee59b435493619f9fcfbd9985744ba98dd4758c6cff6d37d49c2d802fd", func := "loop.example/floorrooms/laws.FnColours", spec := "fnColours", inPlace := ["internal/abi.NoEscape"], unfollowed := true, recurses := true, apart := false, narrowed := true }
def FnColoursUptoSaid : Prop := fnColoursUptoRow.holds Try.pinned (OpenSpec.upto fnColoursSpec)

end Rows
end Go.Proofs.Ytickdcegnlldjaa

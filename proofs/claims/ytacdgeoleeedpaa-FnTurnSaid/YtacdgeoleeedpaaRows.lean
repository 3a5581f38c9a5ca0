/-
  No cell of these rows narrows 'for every input' (looked for: loops, veiled, ifaces, maps, wideKeys, modest, calm, conditions, laid).
  DERIVED. THE GIVEN ROWS OF THIS SEAT. 12 by the template 'for every input the law returns true; each argument reads behind the call as it read before'; 0 by the template 'total and deterministic' (their statements: YtacdgeoleeedpaaTotals.lean).
  GIVEN WITH THE SEED: the statements are not yours to turn. If you find one false, say at which input.
  Laid BY PROGRAM, IN A SANDBOX (cutbox-rows.mjs): the forced cells as the released guide's own fill.sh prints them over the translation 7a33ddc1ac701065… (all of the seat's roots in one cut). By AI agents, Wed Nov 11 2026. No macro, syntax, notation, axiom, sorry.
-/
import Derived.Test.YtacdgeoleeedpaaChecked
import GoSem.Claim
import GoSem.ClaimJoined
import GoSem.ClaimMapViews
import Derived.JoinedTies
import Derived.KernelRfl
namespace Go.Proofs.Ytacdgeoleeedpaa
/- THE CELL 'sum', in the pinned program and in every row, IS THE sha256 OF THE DUMP (.gsa) THAT YtacdgeoleeedpaaProg.lean LOADS. Nothing in Lean hashes anything: it is a label: what it is worth is what the hold of that sum in a sandbox is worth. -/
noncomputable def Try.pinned : Pinned := { name := "ytacdgeoleeedpaa", sum := "7a33ddc1ac701065418962700a3a3f5c45b78e8aab82608c16ea14785ccadaaf", checked := Try.checked }
namespace Rows
def none {H : Type} : Left H := { results := [], args := [] }

/-- 'laws.FnRooms': WHATEVER THE INPUT: true; the input reads as it did. -/
def fnRoomsSpec : ChangeSpec := { name := "fnRooms", fn := fun _ => fun
  | [d] => { results := [.lit (.bool true)], args := [d] }
  | _ => none }
def fnRoomsRow : OpenClaim := { program := "ytacdgeoleeedpaa", sum := "7a33ddc1ac701065418962700a3a3f5c45b78e8aab82608c16ea14785ccadaaf", func := "loop.example/floorrooms/laws.FnRooms", spec := "fnRooms", inPlace := ["internal/abi.NoEscape"], unfollowed := true, recurses := true, apart := false }
def FnRoomsSaid : Prop := fnRoomsRow.holds Try.pinned (OpenSpec.ofChange fnRoomsSpec)

/-- ITS FALSE NEIGHBOUR: 'it returns false'. Refute it at one input. -/
def fnRoomsWrong : ChangeSpec := { name := "fnRooms", fn := fun _ => fun
  | [d] => { results := [.lit (.bool false)], args := [d] }
  | _ => none }
def FnRoomsWrongFalsely : Prop := fnRoomsRow.holds Try.pinned (OpenSpec.ofChange fnRoomsWrong)

/-- 'laws.FnRoom': WHATEVER THE INPUT: true; the input reads as it did. -/
def fnRoomSpec : ChangeSpec := { name := "fnRoom", fn := fun _ => fun
  | [d] => { results := [.lit (.bool true)], args := [d] }
  | _ => none }
def fnRoomRow : OpenClaim := { program := "ytacdgeoleeedpaa", sum := "7a33ddc1ac701065418962700a3a3f5c45b78e8aab82608c16ea14785ccadaaf", func := "loop.example/floorrooms/laws.FnRoom", spec := "fnRoom", inPlace := ["internal/abi.NoEscape"], unfollowed := true, recurses := true, apart := false }
def FnRoomSaid : Prop := fnRoomRow.holds Try.pinned (OpenSpec.ofChange fnRoomSpec)

/-- ITS FALSE NEIGHBOUR: 'it returns false'. Refute it at one input. -/
def fnRoomWrong : ChangeSpec := { name := "fnRoom", fn := fun _ => fun
  | [d] => { results := [.lit (.bool false)], args := [d] }
  | _ => none }
def FnRoomWrongFalsely : Prop := fnRoomRow.holds Try.pinned (OpenSpec.ofChange fnRoomWrong)

/-- 'laws.FnAreas': WHATEVER THE INPUT: true; the input reads as it did. -/
def fnAreasSpec : ChangeSpec := { name := "fnAreas", fn := fun _ => fun
  | [d] => { results := [.lit (.bool true)], args := [d] }
  | _ => none }
def fnAreasRow : OpenClaim := { program := "ytacdgeoleeedpaa", sum := "7a33ddc1ac701065418962700a3a3f5c45b78e8aab82608c16ea14785ccadaaf", func := "loop.example/floorrooms/laws.FnAreas", spec := "fnAreas", inPlace := ["internal/abi.NoEscape"], unfollowed := true, recurses := true, apart := false }
def FnAreasSaid : Prop := fnAreasRow.holds Try.pinned (OpenSpec.ofChange fnAreasSpec)

/-- ITS FALSE NEIGHBOUR: 'it returns false'. Refute it at one input. -/
def fnAreasWrong : ChangeSpec := { name := "fnAreas", fn := fun _ => fun
  | [d] => { results := [.lit (.bool false)], args := [d] }
  | _ => none }
def FnAreasWrongFalsely : Prop := fnAreasRow.holds Try.pinned (OpenSpec.ofChange fnAreasWrong)

/-- 'laws.FnName': WHATEVER THE INPUT: true; the input reads as it did. -/
def fnNameSpec : ChangeSpec := { name := "fnName", fn := fun _ => fun
  | [d] => { results := [.lit (.bool true)], args := [d] }
  | _ => none }
def fnNameRow : OpenClaim := { program := "ytacdgeoleeedpaa", sum := "7a33ddc1ac701065418962700a3a3f5c45b78e8aab82608c16ea14785ccadaaf", func := "loop.example/floorrooms/laws.FnName", spec := "fnName", inPlace := ["internal/abi.NoEscape"], unfollowed := true, recurses := true, apart := false }
def FnNameSaid : Prop := fnNameRow.holds Try.pinned (OpenSpec.ofChange fnNameSpec)

/-- ITS FALSE NEIGHBOUR: 'it returns false'. Refute it at one input. -/
def fnNameWrong : ChangeSpec := { name := "fnName", fn := fun _ => fun
  | [d] => { results := [.lit (.bool false)], args := [d] }
  | _ => none }
def FnNameWrongFalsely : Prop := fnNameRow.holds Try.pinned (OpenSpec.ofChange fnNameWrong)

/-- 'laws.FnPlan': WHATEVER THE INPUT: true; the input reads as it did. -/
def fnPlanSpec : ChangeSpec := { name := "fnPlan", fn := fun _ => fun
  | [d] => { results := [.lit (.bool true)], args := [d] }
  | _ => none }
def fnPlanRow : OpenClaim := { program := "ytacdgeoleeedpaa", sum := "7a33ddc1ac701065418962700a3a3f5c45b78e8aab82608c16ea14785ccadaaf", func := "loop.example/floorrooms/laws.FnPlan", spec := "fnPlan", inPlace := ["internal/abi.NoEscape"], unfollowed := true, recurses := true, apart := false }
def FnPlanSaid : Prop := fnPlanRow.holds Try.pinned (OpenSpec.ofChange fnPlanSpec)

/-- ITS FALSE NEIGHBOUR: 'it returns false'. Refute it at one input. -/
def fnPlanWrong : ChangeSpec := { name := "fnPlan", fn := fun _ => fun
  | [d] => { results := [.lit (.bool false)], args := [d] }
  | _ => none }
def FnPlanWrongFalsely : Prop := fnPlanRow.holds Try.pinned (OpenSpec.ofChange fnPlanWrong)

/-- 'laws.FnFlip': WHATEVER THE INPUT: true; the input reads as it did. -/
def fnFlipSpec : ChangeSpec := { name := "fnFlip", fn := fun _ => fun
  | [d] => { results := [.lit (.bool true)], args := [d] }
  | _ => none }
def fnFlipRow : OpenClaim := { program := "ytacdgeoleeedpaa", sum := "7a33ddc1ac701065418962700a3a3f5c45b78e8aab82608c16ea14785ccadaaf", func := "loop.example/floorrooms/laws.FnFlip", spec := "fnFlip", inPlace := ["internal/abi.NoEscape"], unfollowed := true, recurses := true, apart := false }
def FnFlipSaid : Prop := fnFlipRow.holds Try.pinned (OpenSpec.ofChange fnFlipSpec)

/-- ITS FALSE NEIGHBOUR: 'it returns false'. Refute it at one input. -/
def fnFlipWrong : ChangeSpec := { name := "fnFlip", fn := fun _ => fun
  | [d] => { results := [.lit (.bool false)], args := [d] }
  | _ => none }
def FnFlipWrongFalsely : Prop := fnFlipRow.holds Try.pinned (OpenSpec.ofChange fnFlipWrong)

/-- 'laws.FnTrans': WHATEVER THE INPUT: true; the input reads as it did. -/
def fnTransSpec : ChangeSpec := { name := "fnTrans", fn := fun _ => fun
  | [d] => { results := [.lit (.bool true)], args := [d] }
  | _ => none }
def fnTransRow : OpenClaim := { program := "ytacdgeoleeedpaa", sum := "7a33ddc1ac701065418962700a3a3f5c45b78e8aab82608c16ea14785ccadaaf", func := "loop.example/floorrooms/laws.FnTrans", spec := "fnTrans", inPlace := ["internal/abi.NoEscape"], unfollowed := true, recurses := true, apart := false }
def FnTransSaid : Prop := fnTransRow.holds Try.pinned (OpenSpec.ofChange fnTransSpec)

/-- ITS FALSE NEIGHBOUR: 'it returns false'. Refute it at one input. -/
def fnTransWrong : ChangeSpec := { name := "fnTrans", fn := fun _ => fun
  | [d] => { results := [.lit (.bool false)], args := [d] }
  | _ => none }
def FnTransWrongFalsely : Prop := fnTransRow.holds Try.pinned (OpenSpec.ofChange fnTransWrong)

/-- 'laws.FnTurn': WHATEVER THE INPUT: true; the input reads as it did. -/
def fnTurnSpec : ChangeSpec := { name := "fnTurn", fn := fun _ => fun
  | [d] => { results := [.lit (.bool true)], args := [d] }
  | _ => none }
def fnTurnRow : OpenClaim := { program := "ytacdgeoleeedpaa", sum := "7a33ddc1ac701065418962700a3a3f5c45b78e8aab82608c16ea14785ccadaaf", func := "loop.example/floorrooms/laws.FnTurn", spec := "fnTurn", inPlace := ["internal/abi.NoEscape"], unfollowed := true, recurses := true, apart := false }
def FnTurnSaid : Prop := fnTurnRow.holds Try.pinned (OpenSpec.ofChange fnTurnSpec)

/-- ITS FALSE NEIGHBOUR: 'it returns false'. Refute it at one input. -/
def fnTurnWrong : ChangeSpec := { name := "fnTurn", fn := fun _ => fun
  | [d] => { results := [.lit (.bool false)], args := [d] }
  | _ => none }
def FnTurnWrongFalsely : Prop := fnTurnRow.holds Try.pinned (OpenSpec.ofChange fnTurnWrong)

/-- 'laws.FnWide': WHATEVER THE INPUT: true; the input reads as it did. -/
def fnWideSpec : ChangeSpec := { name := "fnWide", fn := fun _ => fun
  | [d] => { results := [.lit (.bool true)], args := [d] }
  | _ => none }
def fnWideRow : OpenClaim := { program := "ytacdgeoleeedpaa", sum := "7a33ddc1ac701065418962700a3a3f5c45b78e8aab82608c16ea14785ccadaaf", func := "loop.example/floorrooms/laws.FnWide", spec := "fnWide", inPlace := ["internal/abi.NoEscape"], unfollowed := true, recurses := true, apart := false }
def FnWideSaid : Prop := fnWideRow.holds Try.pinned (OpenSpec.ofChange fnWideSpec)

/-- ITS FALSE NEIGHBOUR: 'it returns false'. Refute it at one input. -/
def fnWideWrong : ChangeSpec := { name := "fnWide", fn := fun _ => fun
  | [d] => { results := [.lit (.bool false)], args := [d] }
  | _ => none }
def FnWideWrongFalsely : Prop := fnWideRow.holds Try.pinned (OpenSpec.ofChange fnWideWrong)

/-- 'laws.FnBeside': WHATEVER THE INPUT: true; the input reads as it did. -/
def fnBesideSpec : ChangeSpec := { name := "fnBeside", fn := fun _ => fun
  | [d] => { results := [.lit (.bool true)], args := [d] }
  | _ => none }
def fnBesideRow : OpenClaim := { program := "ytacdgeoleeedpaa", sum := "7a33ddc1ac701065418962700a3a3f5c45b78e8aab82608c16ea14785ccadaaf", func := "loop.example/floorrooms/laws.FnBeside", spec := "fnBeside", inPlace := ["internal/abi.NoEscape"], unfollowed := true, recurses := true, apart := false }
def FnBesideSaid : Prop := fnBesideRow.holds Try.pinned (OpenSpec.ofChange fnBesideSpec)

/-- ITS FALSE NEIGHBOUR: 'it returns false'. Refute it at one input. -/
def fnBesideWrong : ChangeSpec := { name := "fnBeside", fn := fun _ => fun
  | [d] => { results := [.lit (.bool false)], args := [d] }
  | _ => none }
def FnBesideWrongFalsely : Prop := fnBesideRow.holds Try.pinned (OpenSpec.ofChange fnBesideWrong)

/-- 'laws.FnUnder': WHATEVER THE INPUT: true; the input reads as it did. -/
def fnUnderSpec : ChangeSpec := { name := "fnUnder", fn := fun _ => fun
  | [d] => { results := [.lit (.bool true)], args := [d] }
  | _ => none }
def fnUnderRow : OpenClaim := { program := "ytacdgeoleeedpaa", sum := "7a33ddc1ac701065418962700a3a3f5c45b78e8aab82608c16ea14785ccadaaf", func := "loop.example/floorrooms/laws.FnUnder", spec := "fnUnder", inPlace := ["internal/abi.NoEscape"], unfollowed := true, recurses := true, apart := false }
def FnUnderSaid : Prop := fnUnderRow.holds Try.pinned (OpenSpec.ofChange fnUnderSpec)

/-- ITS FALSE NEIGHBOUR: 'it returns false'. Refute it at one input. -/
def fnUnderWrong : ChangeSpec := { name := "fnUnder", fn := fun _ => fun
  | [d] => { results := [.lit (.bool false)], args := [d] }
  | _ => none }
def FnUnderWrongFalsely : Prop := fnUnderRow.holds Try.pinned (OpenSpec.ofChange fnUnderWrong)

/-- 'laws.FnSplit': WHATEVER THE INPUT: true; the input reads as it did. -/
def fnSplitSpec : ChangeSpec := { name := "fnSplit", fn := fun _ => fun
  | [d] => { results := [.lit (.bool true)], args := [d] }
  | _ => none }
def fnSplitRow : OpenClaim := { program := "ytacdgeoleeedpaa", sum := "7a33ddc1ac701065418962700a3a3f5c45b78e8aab82608c16ea14785ccadaaf", func := "loop.example/floorrooms/laws.FnSplit", spec := "fnSplit", inPlace := ["internal/abi.NoEscape"], unfollowed := true, recurses := true, apart := false }
def FnSplitSaid : Prop := fnSplitRow.holds Try.pinned (OpenSpec.ofChange fnSplitSpec)

/-- ITS FALSE NEIGHBOUR: 'it returns false'. Refute it at one input. -/
def fnSplitWrong : ChangeSpec := { name := "fnSplit", fn := fun _ => fun
  | [d] => { results := [.lit (.bool false)], args := [d] }
  | _ => none }
def FnSplitWrongFalsely : Prop := fnSplitRow.holds Try.pinned (OpenSpec.ofChange fnSplitWrong)

/- THE SECOND FORM. 'bulk': how many values and letters a reading holds, each counted each time it is reached (what is shared counts as often as it is met; a slice's spare places count too). A statement '..UptoSaid' is the law's where the arguments, and the package variables that the reading takes, are together of bulk at most 1048576: NARROWER than '..Said'. Prove '..Said' where nothing that the law and all that it calls make is longer than what came in: it says more and counts as full. Else prove '..UptoSaid'. A law counts once. -/
mutual
def uptoBulk {H : Type} : DataW H → Nat
  | .lit (.string bytes) => bytes.length + 1
  | .lit _ => 1
  | .nil => 1
  | .ptr d => uptoBulk d + 1
  | .slice elems spare => uptoBulkAll elems + uptoBulkAll spare + 1
  | .agg parts => uptoBulkAll parts + 1
  | .iface _ d => uptoBulk d + 1
  | .map entries => uptoBulkEntries entries + 1
  | .held _ => 1
def uptoBulkAll {H : Type} : List (DataW H) → Nat
  | [] => 0
  | d :: r => uptoBulk d + uptoBulkAll r
def uptoBulkEntries {H : Type} : List (Lit × DataW H) → Nat
  | [] => 0
  | x :: r => uptoBulkEntry x + uptoBulkEntries r
def uptoBulkEntry {H : Type} : Lit × DataW H → Nat
  | (.string bytes, d) => bytes.length + uptoBulk d + 1
  | (_, d) => uptoBulk d + 1
 end
def uptoSmall : (H : Type) → List (DataW H) → Bool := fun _ ds => decide (uptoBulkAll ds ≤ 1048576)
def OpenSpec.upto (s : _root_.Go.ChangeSpec) : _root_.Go.OpenSpec := { _root_.Go.OpenSpec.ofChange s with cond := some uptoSmall }

/-- 'laws.FnRooms', WHERE WHAT IT READS IS OF BULK AT MOST 1048576: true; the input reads as it did. -/
def fnRoomsUptoRow : OpenClaim := { program := "ytacdgeoleeedpaa", sum := "7a33ddc1ac701065418962700a3a3f5c45b78e8aab82608c16ea14785ccadaaf", func := "loop.example/floorrooms/laws.FnRooms", spec := "fnRooms", inPlace := ["internal/abi.NoEscape"], unfollowed := true, recurses := true, apart := false, narrowed := true }
def FnRoomsUptoSaid : Prop := fnRoomsUptoRow.holds Try.pinned (OpenSpec.upto fnRoomsSpec)

/-- 'laws.FnRoom', WHERE WHAT IT READS IS OF BULK AT MOST 1048576: true; the input reads as it did. -/
def fnRoomUptoRow : OpenClaim := { program := "ytacdgeoleeedpaa", sum := "7a33ddc1ac701065418962700a3a3f5c45b78e8aab82608c16ea14785ccadaaf", func := "loop.example/floorrooms/laws.FnRoom", spec := "fnRoom", inPlace := ["internal/abi.NoEscape"], unfollowed := true, recurses := true, apart := false, narrowed := true }
def FnRoomUptoSaid : Prop := fnRoomUptoRow.holds Try.pinned (OpenSpec.upto fnRoomSpec)

/-- 'laws.FnAreas', WHERE WHAT IT READS IS OF BULK AT MOST 1048576: true; the input reads as it did. -/
def fnAreasUptoRow : OpenClaim := { program := "ytacdgeoleeedpaa", sum := "7a33ddc1ac701065418962700a3a3f5c45b78e8aab82608c16ea14785ccadaaf", func := "loop.example/floorrooms/laws.FnAreas", spec := "fnAreas", inPlace := ["internal/abi.NoEscape"], unfollowed := true, recurses := true, apart := false, narrowed := true }
def FnAreasUptoSaid : Prop := fnAreasUptoRow.holds Try.pinned (OpenSpec.upto fnAreasSpec)

/-- 'laws.FnName', WHERE WHAT IT READS IS OF BULK AT MOST 1048576: true; the input reads as it did. -/
def fnNameUptoRow : OpenClaim := { program := "ytacdgeoleeedpaa", sum := "7a33ddc1ac701065418962700a3a3f5c45b78e8aab82608c16ea14785ccadaaf", func := "loop.example/floorrooms/laws.FnName", spec := "fnName", inPlace := ["internal/abi.NoEscape"], unfollowed := true, recurses := true, apart := false, narrowed := true }
def FnNameUptoSaid : Prop := fnNameUptoRow.holds Try.pinned (OpenSpec.upto fnNameSpec)

/-- 'laws.FnPlan', WHERE WHAT IT READS IS OF BULK AT MOST 1048576: true; the input reads as it did. -/
def fnPlanUptoRow : OpenClaim := { program := "ytacdgeoleeedpaa", sum := "7a33ddc1ac701065418962700a3a3f5c45b78e8aab82608c16ea14785ccadaaf", func := "loop.example/floorrooms/laws.FnPlan", spec := "fnPlan", inPlace := ["internal/abi.NoEscape"], unfollowed := true, recurses := true, apart := false, narrowed := true }
def FnPlanUptoSaid : Prop := fnPlanUptoRow.holds Try.pinned (OpenSpec.upto fnPlanSpec)

/-- 'laws.FnFlip', WHERE WHAT IT READS IS OF BULK AT MOST 1048576: true; the input reads as it did. -/
def fnFlipUptoRow : OpenClaim := { program := "ytacdgeoleeedpaa", sum := "7a33ddc1ac701065418962700a3a3f5c45b78e8aab82608c16ea14785ccadaaf", func := "loop.example/floorrooms/laws.FnFlip", spec := "fnFlip", inPlace := ["internal/abi.NoEscape"], unfollowed := true, recurses := true, apart := false, narrowed := true }
def FnFlipUptoSaid : Prop := fnFlipUptoRow.holds Try.pinned (OpenSpec.upto fnFlipSpec)

/-- 'laws.FnTrans', WHERE WHAT IT READS IS OF BULK AT MOST 1048576: true; the input reads as it did. -/
def fnTransUptoRow : OpenClaim := { program := "ytacdgeoleeedpaa", sum := "7a33ddc1ac701065418962700a3a3f5c45b78e8aab82608c16ea14785ccadaaf", func := "loop.example/floorrooms/laws.FnTrans", spec := "fnTrans", inPlace := ["internal/abi.NoEscape"], unfollowed := true, recurses := true, apart := false, narrowed := true }
def FnTransUptoSaid : Prop := fnTransUptoRow.holds Try.pinned (OpenSpec.upto fnTransSpec)

/-- 'laws.FnTurn', WHERE WHAT IT READS IS OF BULK AT MOST 1048576: true; the input reads as it did. -/
def fnTurnUptoRow : OpenClaim := { program := "ytacdgeoleeedpaa", sum := "7a33ddc1ac701065418962700a3a3f5c45b78e8aab82608c16ea14785ccadaaf", func := "loop.example/floorrooms/laws.FnTurn", spec := "fnTurn", inPlace := ["internal/abi.NoEscape"], unfollowed := true, recurses := true, apart := false, narrowed := true }
def FnTurnUptoSaid : Prop := fnTurnUptoRow.holds Try.pinned (OpenSpec.upto fnTurnSpec)

/-- 'laws.FnWide', WHERE WHAT IT READS IS OF BULK AT MOST 1048576: true; the input reads as it did. -/
def fnWideUptoRow : OpenClaim := { program := "ytacdgeoleeedpaa", sum := "7a33ddc1ac701065418962700a3a3f5c45b78e8aab82608c16ea14785ccadaaf", func := "loop.example/floorrooms/laws.FnWide", spec := "fnWide", inPlace := ["internal/abi.NoEscape"], unfollowed := true, recurses := true, apart := false, narrowed := true }
def FnWideUptoSaid : Prop := fnWideUptoRow.holds Try.pinned (OpenSpec.upto fnWideSpec)

/-- 'laws.FnBeside', WHERE WHAT IT READS IS OF BULK AT MOST 1048576: true; the input reads as it did. -/
def fnBesideUptoRow : OpenClaim := { program := "ytacdgeoleeedpaa", sum := "7a33ddc1ac701065418962700a3a3f5c45b78e8aab82608c16ea14785ccadaaf", func := "loop.example/floorrooms/laws.FnBeside", spec := "fnBeside", inPlace := ["internal/abi.NoEscape"], unfollowed := true, recurses := true, apart := false, narrowed := true }
def FnBesideUptoSaid : Prop := fnBesideUptoRow.holds Try.pinned (OpenSpec.upto fnBesideSpec)

/-- 'laws.FnUnder', WHERE WHAT IT READS IS OF BULK AT MOST 1048576: true; the input reads as it did. -/
def fnUnderUptoRow : OpenClaim := { program := "ytacdgeoleeedpaa", sum := "7a33ddc1ac701065418962700a3a3f5c45b78e8aab82608c16ea14785ccadaaf", func := "loop.example/floorrooms/laws.FnUnder", spec := "fnUnder", inPlace := ["internal/abi.NoEscape"], unfollowed := true, recurses := true, apart := false, narrowed := true }
def FnUnderUptoSaid : Prop := fnUnderUptoRow.holds Try.pinned (OpenSpec.upto fnUnderSpec)

/-- 'laws.FnSplit', WHERE WHAT IT READS IS OF BULK AT MOST 1048576: true; the input reads as it did. -/
def fnSplitUptoRow : OpenClaim := { program := "ytacdgeoleeedpaa", sum := "7a33ddc1ac701065418962700a3a3f5c45b78e8aab82608c16ea14785ccadaaf", func := "loop.example/floorrooms/laws.FnSplit", spec := "fnSplit", inPlace := ["internal/abi.NoEscape"], unfollowed := true, recurses := true, apart := false, narrowed := true }
def FnSplitUptoSaid : Prop := fnSplitUptoRow.holds Try.pinned (OpenSpec.upto fnSplitSpec)

end Rows
end Go.Proofs.Ytacdgeoleeedpaa

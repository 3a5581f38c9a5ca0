/-
  No cell of these rows narrows 'for every input' (looked for: loops, veiled, ifaces, maps, wideKeys, modest, calm, conditions, laid).
  DERIVED. THE GIVEN ROWS OF THIS SEAT. 4 by the template 'for every input the law returns true; each argument reads behind the call as it read before'; 0 by the template 'total and deterministic' (their statements: YtgiidlebnjbgeaaTotals.lean).
  GIVEN WITH THE SEED: the statements are not yours to turn. If you find one false, say at which input.
  Laid BY PROGRAM, IN A SANDBOX (cutbox-rows.mjs): the forced cells as the released guide's own fill.sh prints them over the translation 841e25b5ce72b2f3… (all of the seat's roots in one cut). By AI agents, Wed Nov 11 2026. No macro, syntax, notation, axiom, sorry.
-/
import Derived.Test.YtgiidlebnjbgeaaChecked
import GoSem.Claim
import GoSem.ClaimJoined
import GoSem.ClaimMapViews
import Derived.JoinedTies
import Derived.KernelRfl
namespace Go.Proofs.Ytgiidlebnjbgeaa
/- THE CELL 'sum', in the pinned program and in every row, IS THE sha256 OF THE DUMP (.gsa) THAT YtgiidlebnjbgeaaProg.lean LOADS. Nothing in Lean hashes anything: it is a label: what it is worth is what the hold of that sum in a sandbox is worth. -/
noncomputable def Try.pinned : Pinned := { name := "ytgiidlebnjbgeaa", sum := "841e25b5ce72b2f3be129762ea45ff110758d44de7a0feaebae87affd8a623fd", checked := Try.checked }
namespace Rows
def none {H : Type} : Left H := { results := [], args := [] }

/-- 'laws.FnExactTermPerm': WHATEVER THE INPUT: true; the input reads as it did. -/
def fnExactTermPermSpec : ChangeSpec := { name := "fnExactTermPerm", fn := fun _ => fun
  | [d] => { results := [.lit (.bool true)], args := [d] }
  | _ => none }
def fnExactTermPermRow : OpenClaim := { program := "ytgiidlebnjbgeaa", sum := "841e25b5ce72b2f3be129762ea45ff110758d44de7a0feaebae87affd8a623fd", func := "loop.example/floorrooms/laws.FnExactTermPerm", spec := "fnExactTermPerm", inPlace := ["internal/bytealg.CountString", "internal/bytealg.IndexByteString", "internal/bytealg.IndexString"], recurses := true, named := ["internal/bytealg.MaxLen"], apart := false }
def FnExactTermPermSaid : Prop := fnExactTermPermRow.holds Try.pinned (OpenSpec.ofChange fnExactTermPermSpec)

/-- ITS FALSE NEIGHBOUR: 'it returns false'. Refute it at one input. -/
def fnExactTermPermWrong : ChangeSpec := { name := "fnExactTermPerm", fn := fun _ => fun
  | [d] => { results := [.lit (.bool false)], args := [d] }
  | _ => none }
def FnExactTermPermWrongFalsely : Prop := fnExactTermPermRow.holds Try.pinned (OpenSpec.ofChange fnExactTermPermWrong)

/-- 'laws.FnExactTermSame': WHATEVER THE INPUT: true; the input reads as it did. -/
def fnExactTermSameSpec : ChangeSpec := { name := "fnExactTermSame", fn := fun _ => fun
  | [d1, d2] => { results := [.lit (.bool true)], args := [d1, d2] }
  | _ => none }
def fnExactTermSameRow : OpenClaim := { program := "ytgiidlebnjbgeaa", sum := "841e25b5ce72b2f3be129762ea45ff110758d44de7a0feaebae87affd8a623fd", func := "loop.example/floorrooms/laws.FnExactTermSame", spec := "fnExactTermSame", inPlace := ["internal/bytealg.CountString", "internal/bytealg.IndexByteString", "internal/bytealg.IndexString"], recurses := true, named := ["internal/bytealg.MaxLen"], apart := false }
def FnExactTermSameSaid : Prop := fnExactTermSameRow.holds Try.pinned (OpenSpec.ofChange fnExactTermSameSpec)

/-- ITS FALSE NEIGHBOUR: 'it returns false'. Refute it at one input. -/
def fnExactTermSameWrong : ChangeSpec := { name := "fnExactTermSame", fn := fun _ => fun
  | [d1, d2] => { results := [.lit (.bool false)], args := [d1, d2] }
  | _ => none }
def FnExactTermSameWrongFalsely : Prop := fnExactTermSameRow.holds Try.pinned (OpenSpec.ofChange fnExactTermSameWrong)

/-- 'laws.FnTermLeft': WHATEVER THE INPUT: true; the input reads as it did. -/
def fnTermLeftSpec : ChangeSpec := { name := "fnTermLeft", fn := fun _ => fun
  | [d] => { results := [.lit (.bool true)], args := [d] }
  | _ => none }
def fnTermLeftRow : OpenClaim := { program := "ytgiidlebnjbgeaa", sum := "841e25b5ce72b2f3be129762ea45ff110758d44de7a0feaebae87affd8a623fd", func := "loop.example/floorrooms/laws.FnTermLeft", spec := "fnTermLeft", inPlace := ["internal/bytealg.CountString", "internal/bytealg.IndexByteString", "internal/bytealg.IndexString"], recurses := true, named := ["internal/bytealg.MaxLen"], apart := false }
def FnTermLeftSaid : Prop := fnTermLeftRow.holds Try.pinned (OpenSpec.ofChange fnTermLeftSpec)

/-- ITS FALSE NEIGHBOUR: 'it returns false'. Refute it at one input. -/
def fnTermLeftWrong : ChangeSpec := { name := "fnTermLeft", fn := fun _ => fun
  | [d] => { results := [.lit (.bool false)], args := [d] }
  | _ => none }
def FnTermLeftWrongFalsely : Prop := fnTermLeftRow.holds Try.pinned (OpenSpec.ofChange fnTermLeftWrong)

/-- 'laws.FnTermSame': WHATEVER THE INPUT: true; the input reads as it did. -/
def fnTermSameSpec : ChangeSpec := { name := "fnTermSame", fn := fun _ => fun
  | [d] => { results := [.lit (.bool true)], args := [d] }
  | _ => none }
def fnTermSameRow : OpenClaim := { program := "ytgiidlebnjbgeaa", sum := "841e25b5ce72b2f3be129762ea45ff110758d44de7a0feaebae87affd8a623fd", func := "loop.example/floorrooms/laws.FnTermSame", spec := "fnTermSame", inPlace := ["internal/bytealg.CountString", "internal/bytealg.IndexByteString", "internal/bytealg.IndexString"], recurses := true, named := ["internal/bytealg.MaxLen"], apart := false }
def FnTermSameSaid : Prop := fnTermSameRow.holds Try.pinned (OpenSpec.ofChange fnTermSameSpec)

/-- ITS FALSE NEIGHBOUR: 'it returns false'. Refute it at one input. -/
def fnTermSameWrong : ChangeSpec := { name := "fnTermSame", fn := fun _ => fun
  | [d] => { results := [.lit (.bool false)], args := [d] }
  | _ => none }
def FnTermSameWrongFalsely : Prop := fnTermSameRow.holds Try.pinned (OpenSpec.ofChange fnTermSameWrong)

/- THE SECOND FORM. 'bulk': how many values and letters a reading holds, each counted each time it is reached (what is shared counts as often as it is met; a slice's spare places count too). A statement '..UptoSaid' is the law's where the arguments, and the package variables that the reading takes, are together of bulk at most 1048576: NARROWER than '..Said'. Prove '..Said' where nothing that the law and all that it calls make is longer than what came in: it says more and counts as full. Else prove '..UptoSaid'. A law counts once. -/
mutual
def uptoBulk {H : Type} : DataW H → Nat
  | .lit (.string bytes) => bytes.length + 1
  | .lit _ => 1
  | .nil => 1
  | .ptr d => uptoBulk d + 1
  | .slice elems spare => uptoBulkAll elems + uptoBulkAll spare + 1
  | .agg parts => uptoBulkAll parts + 1
  | .iface _ d => uptoBulk d + 1
  | .map entries => uptoBulkEntries entries + 1
  | .held _ => 1
def uptoBulkAll {H : Type} : List (DataW H) → Nat
  | [] => 0
  | d :: r => uptoBulk d + uptoBulkAll r
def uptoBulkEntries {H : Type} : List (Lit × DataW H) → Nat
  | [] => 0
  | x :: r => uptoBulkEntry x + uptoBulkEntries r
def uptoBulkEntry {H : Type} : Lit × DataW H → Nat
  | (.string bytes, d) => bytes.length + uptoBulk d + 1
  | (_, d) => uptoBulk d + 1
 end
def uptoSmall : (H : Type) → List (DataW H) → Bool := fun _ ds => decide (uptoBulkAll ds ≤ 1048576)
def OpenSpec.upto (s : _root_.Go.ChangeSpec) : _root_.Go.OpenSpec := { _root_.Go.OpenSpec.ofChange s with cond := some uptoSmall }

/-- 'laws.FnExactTermPerm', WHERE WHAT IT READS IS OF BULK AT MOST 1048576: true; the input reads as it did. -/
def fnExactTermPermUptoRow : OpenClaim := { program := "ytgiidlebnjbgeaa", sum := "841e25b5ce72b2f3be129762ea45ff110758d44de7a0feaebae87affd8a623fd", func := "loop.example/floorrooms/laws.FnExactTermPerm", spec := "fnExactTermPerm", inPlace := ["internal/bytealg.CountString", "internal/bytealg.IndexByteString", "internal/bytealg.IndexString"], recurses := true, named := ["internal/bytealg.MaxLen"], apart := false, narrowed := true }
def FnExactTermPermUptoSaid : Prop := fnExactTermPermUptoRow.holds Try.pinned (OpenSpec.upto fnExactTermPermSpec)

/-- 'laws.FnExactTermSame', WHERE WHAT IT READS IS OF BULK AT MOST 1048576: true; the input reads as it did. -/
def fnExactTermSameUptoRow : OpenClaim := { program := "ytgiidlebnjbgeaa", sum := "841e25b5ce72b2f3be129762ea45ff110758d44de7a0feaebae87affd8a623fd", func := "loop.example/floorrooms/laws.FnExactTermSame", spec := "fnExactTermSame", inPlace := ["internal/bytealg.CountString", "internal/bytealg.IndexByteString", "internal/bytealg.IndexString"], recurses := true, named := ["internal/bytealg.MaxLen"], apart := false, narrowed := true }
def FnExactTermSameUptoSaid : Prop := fnExactTermSameUptoRow.holds Try.pinned (OpenSpec.upto fnExactTermSameSpec)

/-- 'laws.FnTermLeft', WHERE WHAT IT READS IS OF BULK AT MOST 1048576: true; the input reads as it did. -/
def fnTermLeftUptoRow : OpenClaim := { program := "ytgiidlebnjbgeaa", sum := "841e25b5ce72b2f3be129762ea45ff110758d44de7a0feaebae87affd8a623fd", func := "loop.example/floorrooms/laws.FnTermLeft", spec := "fnTermLeft", inPlace := ["internal/bytealg.CountString", "internal/bytealg.IndexByteString", "internal/bytealg.IndexString"], recurses := true, named := ["internal/bytealg.MaxLen"], apart := false, narrowed := true }
def FnTermLeftUptoSaid : Prop := fnTermLeftUptoRow.holds Try.pinned (OpenSpec.upto fnTermLeftSpec)

/-- 'laws.FnTermSame', WHERE WHAT IT READS IS OF BULK AT MOST 1048576: true; the input reads as it did. -/
def fnTermSameUptoRow : OpenClaim := { program := "ytgiidlebnjbgeaa", sum := "841e25b5ce72b2f3be129762ea45ff110758d44de7a0feaebae87affd8a623fd", func := "loop.example/floorrooms/laws.FnTermSame", spec := "fnTermSame", inPlace := ["internal/bytealg.CountString", "internal/bytealg.IndexByteString", "internal/bytealg.IndexString"], recurses := true, named := ["internal/bytealg.MaxLen"], apart := false, narrowed := true }
def FnTermSameUptoSaid : Prop := fnTermSameUptoRow.holds Try.pinned (OpenSpec.upto fnTermSameSpec)

end Rows
end Go.Proofs.Ytgiidlebnjbgeaa

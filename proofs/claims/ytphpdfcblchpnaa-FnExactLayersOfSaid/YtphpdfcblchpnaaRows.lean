/-
  No cell of these rows narrows 'for every input' (looked for: loops, veiled, ifaces, maps, wideKeys, modest, calm, conditions, laid).
  DERIVED. THE GIVEN ROWS OF THIS SEAT. 11 by the template 'for every input the law returns true; each argument reads behind the call as it read before'; 0 by the template 'total and deterministic' (their statements: YtphpdfcblchpnaaTotals.lean).
  GIVEN WITH THE SEED: the statements are not yours to turn. If you find one false, say at which input.
  Laid BY PROGRAM, IN A SANDBOX (cutbox-rows.mjs): the forced cells as the released guide's own fill.sh prints them over the translation 1460abc0d36393f5… (all of the seat's roots in one cut). By AI agents, Wed Nov 11 2026. No macro, syntax, notation, axiom, sorry.
-/
import Derived.Test.YtphpdfcblchpnaaChecked
import GoSem.Claim
import GoSem.ClaimJoined
import GoSem.ClaimMapViews
import Derived.JoinedTies
import Derived.KernelRfl
namespace Go.Proofs.Ytphpdfcblchpnaa
/- THE CELL 'sum', in the pinned program and in every row, IS THE sha256 OF THE DUMP (.gsa) THAT YtphpdfcblchpnaaProg.lean LOADS. Nothing in Lean hashes anything: it is a label: what it is worth is what the hold of that sum in a sandbox is worth. -/
noncomputable def Try.pinned : Pinned := { name := "ytphpdfcblchpnaa", sum := "1460abc0d36393f541645b41a791a44467ad5fcf985d967a611dd006e5f4e97b", checked := Try.checked }
namespace Rows
def none {H : Type} : Left H := { results := [], args := [] }

/-- 'laws.FnThreesParted': WHATEVER THE INPUT: true; the input reads as it did. -/
def fnThreesPartedSpec : ChangeSpec := { name := "fnThreesParted", fn := fun _ => fun
  | [d1, d2] => { results := [.lit (.bool true)], args := [d1, d2] }
  | _ => none }
def fnThreesPartedRow : OpenClaim := { program := "ytphpdfcblchpnaa", sum := "1460abc0d36393f541645b41a791a44467ad5fcf985d967a611dd006e5f4e97b", func := "loop.example/g01259/laws.FnThreesParted", spec := "fnThreesParted", unfollowed := true, recurses := true, apart := false }
def FnThreesPartedSaid : Prop := fnThreesPartedRow.holds Try.pinned (OpenSpec.ofChange fnThreesPartedSpec)

/-- ITS FALSE NEIGHBOUR: 'it returns false'. Refute it at one input. -/
def fnThreesPartedWrong : ChangeSpec := { name := "fnThreesParted", fn := fun _ => fun
  | [d1, d2] => { results := [.lit (.bool false)], args := [d1, d2] }
  | _ => none }
def FnThreesPartedWrongFalsely : Prop := fnThreesPartedRow.holds Try.pinned (OpenSpec.ofChange fnThreesPartedWrong)

/-- 'laws.FnExactIsOwnDual': WHATEVER THE INPUT: true; the input reads as it did. -/
def fnExactIsOwnDualSpec : ChangeSpec := { name := "fnExactIsOwnDual", fn := fun _ => fun
  | [d] => { results := [.lit (.bool true)], args := [d] }
  | _ => none }
def fnExactIsOwnDualRow : OpenClaim := { program := "ytphpdfcblchpnaa", sum := "1460abc0d36393f541645b41a791a44467ad5fcf985d967a611dd006e5f4e97b", func := "loop.example/g01259/laws.FnExactIsOwnDual", spec := "fnExactIsOwnDual", unfollowed := true, recurses := true, apart := false }
def FnExactIsOwnDualSaid : Prop := fnExactIsOwnDualRow.holds Try.pinned (OpenSpec.ofChange fnExactIsOwnDualSpec)

/-- ITS FALSE NEIGHBOUR: 'it returns false'. Refute it at one input. -/
def fnExactIsOwnDualWrong : ChangeSpec := { name := "fnExactIsOwnDual", fn := fun _ => fun
  | [d] => { results := [.lit (.bool false)], args := [d] }
  | _ => none }
def FnExactIsOwnDualWrongFalsely : Prop := fnExactIsOwnDualRow.holds Try.pinned (OpenSpec.ofChange fnExactIsOwnDualWrong)

/-- 'laws.FnPickHolds': WHATEVER THE INPUT: true; the input reads as it did. -/
def fnPickHoldsSpec : ChangeSpec := { name := "fnPickHolds", fn := fun _ => fun
  | [d1, d2] => { results := [.lit (.bool true)], args := [d1, d2] }
  | _ => none }
def fnPickHoldsRow : OpenClaim := { program := "ytphpdfcblchpnaa", sum := "1460abc0d36393f541645b41a791a44467ad5fcf985d967a611dd006e5f4e97b", func := "loop.example/g01259/laws.FnPickHolds", spec := "fnPickHolds", unfollowed := true, recurses := true, apart := false }
def FnPickHoldsSaid : Prop := fnPickHoldsRow.holds Try.pinned (OpenSpec.ofChange fnPickHoldsSpec)

/-- ITS FALSE NEIGHBOUR: 'it returns false'. Refute it at one input. -/
def fnPickHoldsWrong : ChangeSpec := { name := "fnPickHolds", fn := fun _ => fun
  | [d1, d2] => { results := [.lit (.bool false)], args := [d1, d2] }
  | _ => none }
def FnPickHoldsWrongFalsely : Prop := fnPickHoldsRow.holds Try.pinned (OpenSpec.ofChange fnPickHoldsWrong)

/-- 'laws.FnMovesKeep': WHATEVER THE INPUT: true; the input reads as it did. -/
def fnMovesKeepSpec : ChangeSpec := { name := "fnMovesKeep", fn := fun _ => fun
  | [d1, d2] => { results := [.lit (.bool true)], args := [d1, d2] }
  | _ => none }
def fnMovesKeepRow : OpenClaim := { program := "ytphpdfcblchpnaa", sum := "1460abc0d36393f541645b41a791a44467ad5fcf985d967a611dd006e5f4e97b", func := "loop.example/g01259/laws.FnMovesKeep", spec := "fnMovesKeep", unfollowed := true, recurses := true, apart := false }
def FnMovesKeepSaid : Prop := fnMovesKeepRow.holds Try.pinned (OpenSpec.ofChange fnMovesKeepSpec)

/-- ITS FALSE NEIGHBOUR: 'it returns false'. Refute it at one input. -/
def fnMovesKeepWrong : ChangeSpec := { name := "fnMovesKeep", fn := fun _ => fun
  | [d1, d2] => { results := [.lit (.bool false)], args := [d1, d2] }
  | _ => none }
def FnMovesKeepWrongFalsely : Prop := fnMovesKeepRow.holds Try.pinned (OpenSpec.ofChange fnMovesKeepWrong)

/-- 'laws.FnExactIsCut': WHATEVER THE INPUT: true; the input reads as it did. -/
def fnExactIsCutSpec : ChangeSpec := { name := "fnExactIsCut", fn := fun _ => fun
  | [d1, d2] => { results := [.lit (.bool true)], args := [d1, d2] }
  | _ => none }
def fnExactIsCutRow : OpenClaim := { program := "ytphpdfcblchpnaa", sum := "1460abc0d36393f541645b41a791a44467ad5fcf985d967a611dd006e5f4e97b", func := "loop.example/g01259/laws.FnExactIsCut", spec := "fnExactIsCut", unfollowed := true, recurses := true, apart := false }
def FnExactIsCutSaid : Prop := fnExactIsCutRow.holds Try.pinned (OpenSpec.ofChange fnExactIsCutSpec)

/-- ITS FALSE NEIGHBOUR: 'it returns false'. Refute it at one input. -/
def fnExactIsCutWrong : ChangeSpec := { name := "fnExactIsCut", fn := fun _ => fun
  | [d1, d2] => { results := [.lit (.bool false)], args := [d1, d2] }
  | _ => none }
def FnExactIsCutWrongFalsely : Prop := fnExactIsCutRow.holds Try.pinned (OpenSpec.ofChange fnExactIsCutWrong)

/-- 'laws.FnThreesMeasured': WHATEVER THE INPUT: true; the input reads as it did. -/
def fnThreesMeasuredSpec : ChangeSpec := { name := "fnThreesMeasured", fn := fun _ => fun
  | [d1, d2] => { results := [.lit (.bool true)], args := [d1, d2] }
  | _ => none }
def fnThreesMeasuredRow : OpenClaim := { program := "ytphpdfcblchpnaa", sum := "1460abc0d36393f541645b41a791a44467ad5fcf985d967a611dd006e5f4e97b", func := "loop.example/g01259/laws.FnThreesMeasured", spec := "fnThreesMeasured", unfollowed := true, recurses := true, apart := false }
def FnThreesMeasuredSaid : Prop := fnThreesMeasuredRow.holds Try.pinned (OpenSpec.ofChange fnThreesMeasuredSpec)

/-- ITS FALSE NEIGHBOUR: 'it returns false'. Refute it at one input. -/
def fnThreesMeasuredWrong : ChangeSpec := { name := "fnThreesMeasured", fn := fun _ => fun
  | [d1, d2] => { results := [.lit (.bool false)], args := [d1, d2] }
  | _ => none }
def FnThreesMeasuredWrongFalsely : Prop := fnThreesMeasuredRow.holds Try.pinned (OpenSpec.ofChange fnThreesMeasuredWrong)

/-- 'laws.FnExactTrianglesAt': WHATEVER THE INPUT: true; the input reads as it did. -/
def fnExactTrianglesAtSpec : ChangeSpec := { name := "fnExactTrianglesAt", fn := fun _ => fun
  | [d1, d2, d3] => { results := [.lit (.bool true)], args := [d1, d2, d3] }
  | _ => none }
def fnExactTrianglesAtRow : OpenClaim := { program := "ytphpdfcblchpnaa", sum := "1460abc0d36393f541645b41a791a44467ad5fcf985d967a611dd006e5f4e97b", func := "loop.example/g01259/laws.FnExactTrianglesAt", spec := "fnExactTrianglesAt", unfollowed := true, recurses := true, apart := false }
def FnExactTrianglesAtSaid : Prop := fnExactTrianglesAtRow.holds Try.pinned (OpenSpec.ofChange fnExactTrianglesAtSpec)

/-- ITS FALSE NEIGHBOUR: 'it returns false'. Refute it at one input. -/
def fnExactTrianglesAtWrong : ChangeSpec := { name := "fnExactTrianglesAt", fn := fun _ => fun
  | [d1, d2, d3] => { results := [.lit (.bool false)], args := [d1, d2, d3] }
  | _ => none }
def FnExactTrianglesAtWrongFalsely : Prop := fnExactTrianglesAtRow.holds Try.pinned (OpenSpec.ofChange fnExactTrianglesAtWrong)

/-- 'laws.FnExactStarOf': WHATEVER THE INPUT: true; the input reads as it did. -/
def fnExactStarOfSpec : ChangeSpec := { name := "fnExactStarOf", fn := fun _ => fun
  | [d] => { results := [.lit (.bool true)], args := [d] }
  | _ => none }
def fnExactStarOfRow : OpenClaim := { program := "ytphpdfcblchpnaa", sum := "1460abc0d36393f541645b41a791a44467ad5fcf985d967a611dd006e5f4e97b", func := "loop.example/g01259/laws.FnExactStarOf", spec := "fnExactStarOf", unfollowed := true, recurses := true, apart := false }
def FnExactStarOfSaid : Prop := fnExactStarOfRow.holds Try.pinned (OpenSpec.ofChange fnExactStarOfSpec)

/-- ITS FALSE NEIGHBOUR: 'it returns false'. Refute it at one input. -/
def fnExactStarOfWrong : ChangeSpec := { name := "fnExactStarOf", fn := fun _ => fun
  | [d] => { results := [.lit (.bool false)], args := [d] }
  | _ => none }
def FnExactStarOfWrongFalsely : Prop := fnExactStarOfRow.holds Try.pinned (OpenSpec.ofChange fnExactStarOfWrong)

/-- 'laws.FnExactIsThin': WHATEVER THE INPUT: true; the input reads as it did. -/
def fnExactIsThinSpec : ChangeSpec := { name := "fnExactIsThin", fn := fun _ => fun
  | [d] => { results := [.lit (.bool true)], args := [d] }
  | _ => none }
def fnExactIsThinRow : OpenClaim := { program := "ytphpdfcblchpnaa", sum := "1460abc0d36393f541645b41a791a44467ad5fcf985d967a611dd006e5f4e97b", func := "loop.example/g01259/laws.FnExactIsThin", spec := "fnExactIsThin", unfollowed := true, recurses := true, apart := false }
def FnExactIsThinSaid : Prop := fnExactIsThinRow.holds Try.pinned (OpenSpec.ofChange fnExactIsThinSpec)

/-- ITS FALSE NEIGHBOUR: 'it returns false'. Refute it at one input. -/
def fnExactIsThinWrong : ChangeSpec := { name := "fnExactIsThin", fn := fun _ => fun
  | [d] => { results := [.lit (.bool false)], args := [d] }
  | _ => none }
def FnExactIsThinWrongFalsely : Prop := fnExactIsThinRow.holds Try.pinned (OpenSpec.ofChange fnExactIsThinWrong)

/-- 'laws.FnExactLeastWidth': WHATEVER THE INPUT: true; the input reads as it did. -/
def fnExactLeastWidthSpec : ChangeSpec := { name := "fnExactLeastWidth", fn := fun _ => fun
  | [d] => { results := [.lit (.bool true)], args := [d] }
  | _ => none }
def fnExactLeastWidthRow : OpenClaim := { program := "ytphpdfcblchpnaa", sum := "1460abc0d36393f541645b41a791a44467ad5fcf985d967a611dd006e5f4e97b", func := "loop.example/g01259/laws.FnExactLeastWidth", spec := "fnExactLeastWidth", unfollowed := true, recurses := true, apart := false }
def FnExactLeastWidthSaid : Prop := fnExactLeastWidthRow.holds Try.pinned (OpenSpec.ofChange fnExactLeastWidthSpec)

/-- ITS FALSE NEIGHBOUR: 'it returns false'. Refute it at one input. -/
def fnExactLeastWidthWrong : ChangeSpec := { name := "fnExactLeastWidth", fn := fun _ => fun
  | [d] => { results := [.lit (.bool false)], args := [d] }
  | _ => none }
def FnExactLeastWidthWrongFalsely : Prop := fnExactLeastWidthRow.holds Try.pinned (OpenSpec.ofChange fnExactLeastWidthWrong)

/-- 'laws.FnExactLayersOf': WHATEVER THE INPUT: true; the input reads as it did. -/
def fnExactLayersOfSpec : ChangeSpec := { name := "fnExactLayersOf", fn := fun _ => fun
  | [d] => { results := [.lit (.bool true)], args := [d] }
  | _ => none }
def fnExactLayersOfRow : OpenClaim := { program := "ytphpdfcblchpnaa", sum := "1460abc0d36393f541645b41a791a44467ad5fcf985d967a611dd006e5f4e97b", func := "loop.example/g01259/laws.FnExactLayersOf", spec := "fnExactLayersOf", unfollowed := true, recurses := true, apart := false }
def FnExactLayersOfSaid : Prop := fnExactLayersOfRow.holds Try.pinned (OpenSpec.ofChange fnExactLayersOfSpec)

/-- ITS FALSE NEIGHBOUR: 'it returns false'. Refute it at one input. -/
def fnExactLayersOfWrong : ChangeSpec := { name := "fnExactLayersOf", fn := fun _ => fun
  | [d] => { results := [.lit (.bool false)], args := [d] }
  | _ => none }
def FnExactLayersOfWrongFalsely : Prop := fnExactLayersOfRow.holds Try.pinned (OpenSpec.ofChange fnExactLayersOfWrong)

/- THE SECOND FORM. 'bulk': how many values and letters a reading holds, each counted each time it is reached (what is shared counts as often as it is met; a slice's spare places count too). A statement '..UptoSaid' is the law's where the arguments, and the package variables that the reading takes, are together of bulk at most 1048576: NARROWER than '..Said'. Prove '..Said' where nothing that the law and all that it calls make is longer than what came in: it says more and counts as full. Else prove '..UptoSaid'. A law counts once. -/
mutual
def uptoBulk {H : Type} : DataW H → Nat
  | .lit (.string bytes) => bytes.length + 1
  | .lit _ => 1
  | .nil => 1
  | .ptr d => uptoBulk d + 1
  | .slice elems spare => uptoBulkAll elems + uptoBulkAll spare + 1
  | .agg parts => uptoBulkAll parts + 1
  | .iface _ d => uptoBulk d + 1
  | .map entries => uptoBulkEntries entries + 1
  | .held _ => 1
def uptoBulkAll {H : Type} : List (DataW H) → Nat
  | [] => 0
  | d :: r => uptoBulk d + uptoBulkAll r
def uptoBulkEntries {H : Type} : List (Lit × DataW H) → Nat
  | [] => 0
  | x :: r => uptoBulkEntry x + uptoBulkEntries r
def uptoBulkEntry {H : Type} : Lit × DataW H → Nat
  | (.string bytes, d) => bytes.length + uptoBulk d + 1
  | (_, d) => uptoBulk d + 1
 end
def uptoSmall : (H : Type) → List (DataW H) → Bool := fun _ ds => decide (uptoBulkAll ds ≤ 1048576)
def OpenSpec.upto (s : _root_.Go.ChangeSpec) : _root_.Go.OpenSpec := { _root_.Go.OpenSpec.ofChange s with cond := some uptoSmall }

/-- 'laws.FnThreesParted', WHERE WHAT IT READS IS OF BULK AT MOST 1048576: true; the input reads as it did. -/
def fnThreesPartedUptoRow : OpenClaim := { program := "ytphpdfcblchpnaa", sum := "1460abc0d36393f541645b41a791a44467ad5fcf985d967a611dd006e5f4e97b", func := "loop.example/g01259/laws.FnThreesParted", spec := "fnThreesParted", unfollowed := true, recurses := true, apart := false, narrowed := true }
def FnThreesPartedUptoSaid : Prop := fnThreesPartedUptoRow.holds Try.pinned (OpenSpec.upto fnThreesPartedSpec)

/-- 'laws.FnExactIsOwnDual', WHERE WHAT IT READS IS OF BULK AT MOST 1048576: true; the input reads as it did. -/
def fnExactIsOwnDualUptoRow : OpenClaim := { program := "ytphpdfcblchpnaa", sum := "1460abc0d36393f541645b41a791a44467ad5fcf985d967a611dd006e5f4e97b", func := "loop.example/g01259/laws.FnExactIsOwnDual", spec := "fnExactIsOwnDual", unfollowed := true, recurses := true, apart := false, narrowed := true }
def FnExactIsOwnDualUptoSaid : Prop := fnExactIsOwnDualUptoRow.holds Try.pinned (OpenSpec.upto fnExactIsOwnDualSpec)

/-- 'laws.FnPickHolds', WHERE WHAT IT READS IS OF BULK AT MOST 1048576: true; the input reads as it did. -/
def fnPickHoldsUptoRow : OpenClaim := { program := "ytphpdfcblchpnaa", sum := "1460abc0d36393f541645b41a791a44467ad5fcf985d967a611dd006e5f4e97b", func := "loop.example/g01259/laws.FnPickHolds", spec := "fnPickHolds", unfollowed := true, recurses := true, apart := false, narrowed := true }
def FnPickHoldsUptoSaid : Prop := fnPickHoldsUptoRow.holds Try.pinned (OpenSpec.upto fnPickHoldsSpec)

/-- 'laws.FnMovesKeep', WHERE WHAT IT READS IS OF BULK AT MOST 1048576: true; the input reads as it did. -/
def fnMovesKeepUptoRow : OpenClaim := { program := "ytphpdfcblchpnaa", sum := "1460abc0d36393f541645b41a791a44467ad5fcf985d967a611dd006e5f4e97b", func := "loop.example/g01259/laws.FnMovesKeep", spec := "fnMovesKeep", unfollowed := true, recurses := true, apart := false, narrowed := true }
def FnMovesKeepUptoSaid : Prop := fnMovesKeepUptoRow.holds Try.pinned (OpenSpec.upto fnMovesKeepSpec)

/-- 'laws.FnExactIsCut', WHERE WHAT IT READS IS OF BULK AT MOST 1048576: true; the input reads as it did. -/
def fnExactIsCutUptoRow : OpenClaim := { program := "ytphpdfcblchpnaa", sum := "1460abc0d36393f541645b41a791a44467ad5fcf985d967a611dd006e5f4e97b", func := "loop.example/g01259/laws.FnExactIsCut", spec := "fnExactIsCut", unfollowed := true, recurses := true, apart := false, narrowed := true }
def FnExactIsCutUptoSaid : Prop := fnExactIsCutUptoRow.holds Try.pinned (OpenSpec.upto fnExactIsCutSpec)

/-- 'laws.FnThreesMeasured', WHERE WHAT IT READS IS OF BULK AT MOST 1048576: true; the input reads as it did. -/
def fnThreesMeasuredUptoRow : OpenClaim := { program := "ytphpdfcblchpnaa", sum := "1460abc0d36393f541645b41a791a44467ad5fcf985d967a611dd006e5f4e97b", func := "loop.example/g01259/laws.FnThreesMeasured", spec := "fnThreesMeasured", unfollowed := true, recurses := true, apart := false, narrowed := true }
def FnThreesMeasuredUptoSaid : Prop := fnThreesMeasuredUptoRow.holds Try.pinned (OpenSpec.upto fnThreesMeasuredSpec)

/-- 'laws.FnExactTrianglesAt', WHERE WHAT IT READS IS OF BULK AT MOST 1048576: true; the input reads as it did. -/
def fnExactTrianglesAtUptoRow : OpenClaim := { program := "ytphpdfcblchpnaa", sum := "1460abc0d36393f541645b41a791a44467ad5fcf985d967a611dd006e5f4e97b", func := "loop.example/g01259/laws.FnExactTrianglesAt", spec := "fnExactTrianglesAt", unfollowed := true, recurses := true, apart := false, narrowed := true }
def FnExactTrianglesAtUptoSaid : Prop := fnExactTrianglesAtUptoRow.holds Try.pinned (OpenSpec.upto fnExactTrianglesAtSpec)

/-- 'laws.FnExactStarOf', WHERE WHAT IT READS IS OF BULK AT MOST 1048576: true; the input reads as it did. -/
def fnExactStarOfUptoRow : OpenClaim := { program := "ytphpdfcblchpnaa", sum := "1460abc0d36393f541645b41a791a44467ad5fcf985d967a611dd006e5f4e97b", func := "loop.example/g01259/laws.FnExactStarOf", spec := "fnExactStarOf", unfollowed := true, recurses := true, apart := false, narrowed := true }
def FnExactStarOfUptoSaid : Prop := fnExactStarOfUptoRow.holds Try.pinned (OpenSpec.upto fnExactStarOfSpec)

/-- 'laws.FnExactIsThin', WHERE WHAT IT READS IS OF BULK AT MOST 1048576: true; the input reads as it did. -/
def fnExactIsThinUptoRow : OpenClaim := { program := "ytphpdfcblchpnaa", sum := "1460abc0d36393f541645b41a791a44467ad5fcf985d967a611dd006e5f4e97b", func := "loop.example/g01259/laws.FnExactIsThin", spec := "fnExactIsThin", unfollowed := true, recurses := true, apart := false, narrowed := true }
def FnExactIsThinUptoSaid : Prop := fnExactIsThinUptoRow.holds Try.pinned (OpenSpec.upto fnExactIsThinSpec)

/-- 'laws.FnExactLeastWidth', WHERE WHAT IT READS IS OF BULK AT MOST 1048576: true; the input reads as it did. -/
def fnExactLeastWidthUptoRow : OpenClaim := { program := "ytphpdfcblchpnaa", sum := "1460abc0d36393f541645b41a791a44467ad5fcf985d967a611dd006e5f4e97b", func := "loop.example/g01259/laws.FnExactLeastWidth", spec := "fnExactLeastWidth", unfollowed := true, recurses := true, apart := false, narrowed := true }
def FnExactLeastWidthUptoSaid : Prop := fnExactLeastWidthUptoRow.holds Try.pinned (OpenSpec.upto fnExactLeastWidthSpec)

/-- 'laws.FnExactLayersOf', WHERE WHAT IT READS IS OF BULK AT MOST 1048576: true; the input reads as it did. -/
def fnExactLayersOfUptoRow : OpenClaim := { program := "ytphpdfcblchpnaa", sum := "1460abc0d36393f541645b41a791a44467ad5fcf985d967a611dd006e5f4e97b", func := "loop.example/g01259/laws.FnExactLayersOf", spec := "fnExactLayersOf", unfollowed := true, recurses := true, apart := false, narrowed := true }
def FnExactLayersOfUptoSaid : Prop := fnExactLayersOfUptoRow.holds Try.pinned (OpenSpec.upto fnExactLayersOfSpec)

end Rows
end Go.Proofs.Ytphpdfcblchpnaa

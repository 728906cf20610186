/-
  No cell of these rows narrows 'for every input' (looked for: loops, veiled, ifaces, maps, wideKeys, modest, calm, conditions, laid).
  DERIVED. THE GIVEN ROWS OF THIS SEAT. 6 by the template 'for every input the law returns true; each argument reads behind the call as it read before'; 0 by the template 'total and deterministic' (their statements: YtlaemhigmgmgjaaGreatTotals.lean).
  GIVEN WITH THE SEED: the statements are not yours to turn. If you find one false, say at which input.
  Laid BY PROGRAM, IN A SANDBOX (cutbox-rows.mjs): the forced cells as the released guide's own fill.sh prints them over the translation 80a5e0a1bd8bce99… (all of the seat's roots in one cut). By AI agents, Wed Nov 11 2026. No macro, syntax, notation, axiom, sorry.
-/
import Derived.Test.YtlaemhigmgmgjaaGreatChecked
import GoSem.Claim
import GoSem.ClaimJoined
import GoSem.ClaimMapViews
import Derived.JoinedTies
import Derived.KernelRfl
namespace Go.Proofs.YtlaemhigmgmgjaaGreat
/- THE CELL 'sum', in the pinned program and in every row, IS THE sha256 OF THE DUMP (.gsa) THAT YtlaemhigmgmgjaaGreatProg.lean LOADS. Nothing in Lean hashes anything: it is a label: what it is worth is what the hold of that sum in a sandbox is worth. -/
noncomputable def Tryz.pinned : Pinned := { name := "ytlaemhigmgmgjaagreat", sum := "80a5e0a1bd8bce9951699cf28ffe69fa46e5e585d3ffb32e7c2b271f97e93a12", checked := Tryz.checked }
namespace Rows
def none {H : Type} : Left H := { results := [], args := [] }

/-- 'pylonlaw25.ClearMonotone': WHATEVER THE INPUT: true; the input reads as it did. -/
def clearMonotoneSpec : ChangeSpec := { name := "clearMonotone", fn := fun _ => fun
  | [d1, d2, d3] => { results := [.lit (.bool true)], args := [d1, d2, d3] }
  | _ => none }
def clearMonotoneRow : OpenClaim := { program := "ytlaemhigmgmgjaagreat", sum := "80a5e0a1bd8bce9951699cf28ffe69fa46e5e585d3ffb32e7c2b271f97e93a12", func := "pylon/pylonlaw25.ClearMonotone", spec := "clearMonotone", unfollowed := true, recurses := true, apart := false }
def ClearMonotoneSaid : Prop := clearMonotoneRow.holds Tryz.pinned (OpenSpec.ofChange clearMonotoneSpec)

/-- ITS FALSE NEIGHBOUR: 'it returns false'. Refute it at one input. -/
def clearMonotoneWrong : ChangeSpec := { name := "clearMonotone", fn := fun _ => fun
  | [d1, d2, d3] => { results := [.lit (.bool false)], args := [d1, d2, d3] }
  | _ => none }
def ClearMonotoneWrongFalsely : Prop := clearMonotoneRow.holds Tryz.pinned (OpenSpec.ofChange clearMonotoneWrong)

/-- 'pylonlaw25.ClearPermutation': WHATEVER THE INPUT: true; the input reads as it did. -/
def clearPermutationSpec : ChangeSpec := { name := "clearPermutation", fn := fun _ => fun
  | [d1, d2, d3, d4] => { results := [.lit (.bool true)], args := [d1, d2, d3, d4] }
  | _ => none }
def clearPermutationRow : OpenClaim := { program := "ytlaemhigmgmgjaagreat", sum := "80a5e0a1bd8bce9951699cf28ffe69fa46e5e585d3ffb32e7c2b271f97e93a12", func := "pylon/pylonlaw25.ClearPermutation", spec := "clearPermutation", unfollowed := true, recurses := true, apart := false }
def ClearPermutationSaid : Prop := clearPermutationRow.holds Tryz.pinned (OpenSpec.ofChange clearPermutationSpec)

/-- ITS FALSE NEIGHBOUR: 'it returns false'. Refute it at one input. -/
def clearPermutationWrong : ChangeSpec := { name := "clearPermutation", fn := fun _ => fun
  | [d1, d2, d3, d4] => { results := [.lit (.bool false)], args := [d1, d2, d3, d4] }
  | _ => none }
def ClearPermutationWrongFalsely : Prop := clearPermutationRow.holds Tryz.pinned (OpenSpec.ofChange clearPermutationWrong)

/-- 'pylonlaw25.ClearDuality': WHATEVER THE INPUT: true; the input reads as it did. -/
def clearDualitySpec : ChangeSpec := { name := "clearDuality", fn := fun _ => fun
  | [d1, d2] => { results := [.lit (.bool true)], args := [d1, d2] }
  | _ => none }
def clearDualityRow : OpenClaim := { program := "ytlaemhigmgmgjaagreat", sum := "80a5e0a1bd8bce9951699cf28ffe69fa46e5e585d3ffb32e7c2b271f97e93a12", func := "pylon/pylonlaw25.ClearDuality", spec := "clearDuality", unfollowed := true, recurses := true, apart := false }
def ClearDualitySaid : Prop := clearDualityRow.holds Tryz.pinned (OpenSpec.ofChange clearDualitySpec)

/-- ITS FALSE NEIGHBOUR: 'it returns false'. Refute it at one input. -/
def clearDualityWrong : ChangeSpec := { name := "clearDuality", fn := fun _ => fun
  | [d1, d2] => { results := [.lit (.bool false)], args := [d1, d2] }
  | _ => none }
def ClearDualityWrongFalsely : Prop := clearDualityRow.holds Tryz.pinned (OpenSpec.ofChange clearDualityWrong)

/-- 'pylonlaw25.ClearPriceInterval': WHATEVER THE INPUT: true; the input reads as it did. -/
def clearPriceIntervalSpec : ChangeSpec := { name := "clearPriceInterval", fn := fun _ => fun
  | [d1, d2, d3, d4, d5] => { results := [.lit (.bool true)], args := [d1, d2, d3, d4, d5] }
  | _ => none }
def clearPriceIntervalRow : OpenClaim := { program := "ytlaemhigmgmgjaagreat", sum := "80a5e0a1bd8bce9951699cf28ffe69fa46e5e585d3ffb32e7c2b271f97e93a12", func := "pylon/pylonlaw25.ClearPriceInterval", spec := "clearPriceInterval", unfollowed := true, recurses := true, apart := false }
def ClearPriceIntervalSaid : Prop := clearPriceIntervalRow.holds Tryz.pinned (OpenSpec.ofChange clearPriceIntervalSpec)

/-- ITS FALSE NEIGHBOUR: 'it returns false'. Refute it at one input. -/
def clearPriceIntervalWrong : ChangeSpec := { name := "clearPriceInterval", fn := fun _ => fun
  | [d1, d2, d3, d4, d5] => { results := [.lit (.bool false)], args := [d1, d2, d3, d4, d5] }
  | _ => none }
def ClearPriceIntervalWrongFalsely : Prop := clearPriceIntervalRow.holds Tryz.pinned (OpenSpec.ofChange clearPriceIntervalWrong)

/-- 'pylonlaw25.ClearOptimality': WHATEVER THE INPUT: true; the input reads as it did. -/
def clearOptimalitySpec : ChangeSpec := { name := "clearOptimality", fn := fun _ => fun
  | [d1, d2, d3, d4] => { results := [.lit (.bool true)], args := [d1, d2, d3, d4] }
  | _ => none }
def clearOptimalityRow : OpenClaim := { program := "ytlaemhigmgmgjaagreat", sum := "80a5e0a1bd8bce9951699cf28ffe69fa46e5e585d3ffb32e7c2b271f97e93a12", func := "pylon/pylonlaw25.ClearOptimality", spec := "clearOptimality", unfollowed := true, recurses := true, apart := false }
def ClearOptimalitySaid : Prop := clearOptimalityRow.holds Tryz.pinned (OpenSpec.ofChange clearOptimalitySpec)

/-- ITS FALSE NEIGHBOUR: 'it returns false'. Refute it at one input. -/
def clearOptimalityWrong : ChangeSpec := { name := "clearOptimality", fn := fun _ => fun
  | [d1, d2, d3, d4] => { results := [.lit (.bool false)], args := [d1, d2, d3, d4] }
  | _ => none }
def ClearOptimalityWrongFalsely : Prop := clearOptimalityRow.holds Tryz.pinned (OpenSpec.ofChange clearOptimalityWrong)

/-- 'pylonlaw25.ClearEquilibrium': WHATEVER THE INPUT: true; the input reads as it did. -/
def clearEquilibriumSpec : ChangeSpec := { name := "clearEquilibrium", fn := fun _ => fun
  | [d1, d2] => { results := [.lit (.bool true)], args := [d1, d2] }
  | _ => none }
def clearEquilibriumRow : OpenClaim := { program := "ytlaemhigmgmgjaagreat", sum := "80a5e0a1bd8bce9951699cf28ffe69fa46e5e585d3ffb32e7c2b271f97e93a12", func := "pylon/pylonlaw25.ClearEquilibrium", spec := "clearEquilibrium", unfollowed := true, recurses := true, apart := false }
def ClearEquilibriumSaid : Prop := clearEquilibriumRow.holds Tryz.pinned (OpenSpec.ofChange clearEquilibriumSpec)

/-- ITS FALSE NEIGHBOUR: 'it returns false'. Refute it at one input. -/
def clearEquilibriumWrong : ChangeSpec := { name := "clearEquilibrium", fn := fun _ => fun
  | [d1, d2] => { results := [.lit (.bool false)], args := [d1, d2] }
  | _ => none }
def ClearEquilibriumWrongFalsely : Prop := clearEquilibriumRow.holds Tryz.pinned (OpenSpec.ofChange clearEquilibriumWrong)

/- THE SECOND FORM. 'bulk': how many values and letters a reading holds, each counted each time it is reached (what is shared counts as often as it is met; a slice's spare places count too). A statement '..UptoSaid' is the law's where the arguments, and the package variables that the reading takes, are together of bulk at most 1048576: NARROWER than '..Said'. Prove '..Said' where nothing that the law and all that it calls make is longer than what came in: it says more and counts as full. Else prove '..UptoSaid'. A law counts once. -/
mutual
def uptoBulk {H : Type} : DataW H → Nat
  | .lit (.string bytes) => bytes.length + 1
  | .lit _ => 1
  | .nil => 1
  | .ptr d => uptoBulk d + 1
  | .slice elems spare => uptoBulkAll elems + uptoBulkAll spare + 1
  | .agg parts => uptoBulkAll parts + 1
  | .iface _ d => uptoBulk d + 1
  | .map entries => uptoBulkEntries entries + 1
  | .held _ => 1
def uptoBulkAll {H : Type} : List (DataW H) → Nat
  | [] => 0
  | d :: r => uptoBulk d + uptoBulkAll r
def uptoBulkEntries {H : Type} : List (Lit × DataW H) → Nat
  | [] => 0
  | x :: r => uptoBulkEntry x + uptoBulkEntries r
def uptoBulkEntry {H : Type} : Lit × DataW H → Nat
  | (.string bytes, d) => bytes.length + uptoBulk d + 1
  | (_, d) => uptoBulk d + 1
 end
def uptoSmall : (H : Type) → List (DataW H) → Bool := fun _ ds => decide (uptoBulkAll ds ≤ 1048576)
def OpenSpec.upto (s : _root_.Go.ChangeSpec) : _root_.Go.OpenSpec := { _root_.Go.OpenSpec.ofChange s with cond := some uptoSmall }

/-- 'pylonlaw25.ClearMonotone', WHERE WHAT IT READS IS OF BULK AT MOST 1048576: true; the input reads as it did. -/
def clearMonotoneUptoRow : OpenClaim := { program := "ytlaemhigmgmgjaagreat", sum := "80a5e0a1bd8bce9951699cf28ffe69fa46e5e585d3ffb32e7c2b271f97e93a12", func := "pylon/pylonlaw25.ClearMonotone", spec := "clearMonotone", unfollowed := true, recurses := true, apart := false, narrowed := true }
def ClearMonotoneUptoSaid : Prop := clearMonotoneUptoRow.holds Tryz.pinned (OpenSpec.upto clearMonotoneSpec)

/-- 'pylonlaw25.ClearPermutation', WHERE WHAT IT READS IS OF BULK AT MOST 1048576: true; the input reads as it did. -/
def clearPermutationUptoRow : OpenClaim := { program := "ytlaemhigmgmgjaagreat", sum := "80a5e0a1bd8bce9951699cf28ffe69fa46e5e585d3ffb32e7c2b271f97e93a12", func := "pylon/pylonlaw25.ClearPermutation", spec := "clearPermutation", unfollowed := true, recurses := true, apart := false, narrowed := true }
def ClearPermutationUptoSaid : Prop := clearPermutationUptoRow.holds Tryz.pinned (OpenSpec.upto clearPermutationSpec)

/-- 'pylonlaw25.ClearDuality', WHERE WHAT IT READS IS OF BULK AT MOST 1048576: true; the input reads as it did. -/
def clearDualityUptoRow : OpenClaim := { program := "ytlaemhigmgmgjaagreat", sum := "80a5e0a1bd8bce9951699cf28ffe69fa46e5e585d3ffb32e7c2b271f97e93a12", func := "pylon/pylonlaw25.ClearDuality", spec := "clearDuality", unfollowed := true, recurses := true, apart := false, narrowed := true }
def ClearDualityUptoSaid : Prop := clearDualityUptoRow.holds Tryz.pinned (OpenSpec.upto clearDualitySpec)

/-- 'pylonlaw25.ClearPriceInterval', WHERE WHAT IT READS IS OF BULK AT MOST 1048576: true; the input reads as it did. -/
def clearPriceIntervalUptoRow : OpenClaim := { program := "ytlaemhigmgmgjaagreat", sum := "80a5e0a1bd8bce9951699cf28ffe69fa46e5e585d3ffb32e7c2b271f97e93a12", func := "pylon/pylonlaw25.ClearPriceInterval", spec := "clearPriceInterval", unfollowed := true, recurses := true, apart := false, narrowed := true }
def ClearPriceIntervalUptoSaid : Prop := clearPriceIntervalUptoRow.holds Tryz.pinned (OpenSpec.upto clearPriceIntervalSpec)

/-- 'pylonlaw25.ClearOptimality', WHERE WHAT IT READS IS OF BULK AT MOST 1048576: true; the input reads as it did. -/
def clearOptimalityUptoRow : OpenClaim := { program := "ytlaemhigmgmgjaagreat", sum := "80a5e0a1bd8bce9951699cf28ffe69fa46e5e585d3ffb32e7c2b271f97e93a12", func := "pylon/pylonlaw25.ClearOptimality", spec := "clearOptimality", unfollowed := true, recurses := true, apart := false, narrowed := true }
def ClearOptimalityUptoSaid : Prop := clearOptimalityUptoRow.holds Tryz.pinned (OpenSpec.upto clearOptimalitySpec)

/-- 'pylonlaw25.ClearEquilibrium', WHERE WHAT IT READS IS OF BULK AT MOST 1048576: true; the input reads as it did. -/
def clearEquilibriumUptoRow : OpenClaim := { program := "ytlaemhigmgmgjaagreat", sum := "80a5e0a1bd8bce9951699cf28ffe69fa46e5e585d3ffb32e7c2b271f97e93a12", func := "pylon/pylonlaw25.ClearEquilibrium", spec := "clearEquilibrium", unfollowed := true, recurses := true, apart := false, narrowed := true }
def ClearEquilibriumUptoSaid : Prop := clearEquilibriumUptoRow.holds Tryz.pinned (OpenSpec.upto clearEquilibriumSpec)

end Rows
end Go.Proofs.YtlaemhigmgmgjaaGreat

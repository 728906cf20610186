/-
  No cell of these rows narrows 'for every input' (looked for: loops, veiled, ifaces, maps, wideKeys, modest, calm, conditions, laid).
  DERIVED. THE GIVEN ROWS OF THIS SEAT. 2 by the template 'for every input the law returns true; each argument reads behind the call as it read before'; 0 by the template 'total and deterministic' (their statements: YtoiakikfehfklaaTotals.lean).
  GIVEN WITH THE SEED: the statements are not yours to turn. If you find one false, say at which input.
  Laid BY PROGRAM, IN A SANDBOX (cutbox-rows.mjs): the forced cells as the released guide's own fill.sh prints them over the translation be42d09dc01ac663… (all of the seat's roots in one cut). By AI agents, Wed Nov 11 2026. No macro, syntax, notation, axiom, sorry.
-/
import Derived.Test.YtoiakikfehfklaaChecked
import GoSem.Claim
import GoSem.ClaimJoined
import GoSem.ClaimMapViews
import Derived.JoinedTies
import Derived.KernelRfl
namespace Go.Proofs.Ytoiakikfehfklaa
/- THE CELL 'sum', in the pinned program and in every row, IS THE sha256 OF THE DUMP (.gsa) THAT YtoiakikfehfklaaProg.lean LOADS. Nothing in Lean hashes anything: it is a label: what it is worth is what the hold of that sum in a sandbox is worth. -/
noncomputable def Try.pinned : Pinned := { name := "ytoiakikfehfklaa", sum := "be42d09dc01ac663aff9024a493ecbce051a7bad9740577dbdf9d3128ac31900", checked := Try.checked }
namespace Rows
def none {H : Type} : Left H := { results := [], args := [] }

/-- 'pylonlaw24.StackPermutation': WHATEVER THE INPUT: true; the input reads as it did. -/
def stackPermutationSpec : ChangeSpec := { name := "stackPermutation", fn := fun _ => fun
  | [d1, d2, d3] => { results := [.lit (.bool true)], args := [d1, d2, d3] }
  | _ => none }
def stackPermutationRow : OpenClaim := { program := "ytoiakikfehfklaa", sum := "be42d09dc01ac663aff9024a493ecbce051a7bad9740577dbdf9d3128ac31900", func := "pylon/pylonlaw24.StackPermutation", spec := "stackPermutation", unfollowed := true, recurses := true, apart := false }
def StackPermutationSaid : Prop := stackPermutationRow.holds Try.pinned (OpenSpec.ofChange stackPermutationSpec)

/-- ITS FALSE NEIGHBOUR: 'it returns false'. Refute it at one input. -/
def stackPermutationWrong : ChangeSpec := { name := "stackPermutation", fn := fun _ => fun
  | [d1, d2, d3] => { results := [.lit (.bool false)], args := [d1, d2, d3] }
  | _ => none }
def StackPermutationWrongFalsely : Prop := stackPermutationRow.holds Try.pinned (OpenSpec.ofChange stackPermutationWrong)

/-- 'pylonlaw24.StackAddition': WHATEVER THE INPUT: true; the input reads as it did. -/
def stackAdditionSpec : ChangeSpec := { name := "stackAddition", fn := fun _ => fun
  | [d1, d2, d3] => { results := [.lit (.bool true)], args := [d1, d2, d3] }
  | _ => none }
def stackAdditionRow : OpenClaim := { program := "ytoiakikfehfklaa", sum := "be42d09dc01ac663aff9024a493ecbce051a7bad9740577dbdf9d3128ac31900", func := "pylon/pylonlaw24.StackAddition", spec := "stackAddition", unfollowed := true, recurses := true, apart := false }
def StackAdditionSaid : Prop := stackAdditionRow.holds Try.pinned (OpenSpec.ofChange stackAdditionSpec)

/-- ITS FALSE NEIGHBOUR: 'it returns false'. Refute it at one input. -/
def stackAdditionWrong : ChangeSpec := { name := "stackAddition", fn := fun _ => fun
  | [d1, d2, d3] => { results := [.lit (.bool false)], args := [d1, d2, d3] }
  | _ => none }
def StackAdditionWrongFalsely : Prop := stackAdditionRow.holds Try.pinned (OpenSpec.ofChange stackAdditionWrong)

/- THE SECOND FORM. 'bulk': how many values and letters a reading holds, each counted each time it is reached (what is shared counts as often as it is met; a slice's spare places count too). A statement '..UptoSaid' is the law's where the arguments, and the package variables that the reading takes, are together of bulk at most 1048576: NARROWER than '..Said'. Prove '..Said' where nothing that the law and all that it calls make is longer than what came in: it says more and counts as full. Else prove '..UptoSaid'. A law counts once. -/
mutual
def uptoBulk {H : Type} : DataW H → Nat
  | .lit (.string bytes) => bytes.length + 1
  | .lit _ => 1
  | .nil => 1
  | .ptr d => uptoBulk d + 1
  | .slice elems spare => uptoBulkAll elems + uptoBulkAll spare + 1
  | .agg parts => uptoBulkAll parts + 1
  | .iface _ d => uptoBulk d + 1
  | .map entries => uptoBulkEntries entries + 1
  | .held _ => 1
def uptoBulkAll {H : Type} : List (DataW H) → Nat
  | [] => 0
  | d :: r => uptoBulk d + uptoBulkAll r
def uptoBulkEntries {H : Type} : List (Lit × DataW H) → Nat
  | [] => 0
  | x :: r => uptoBulkEntry x + uptoBulkEntries r
def uptoBulkEntry {H : Type} : Lit × DataW H → Nat
  | (.string bytes, d) => bytes.length + uptoBulk d + 1
  | (_, d) => uptoBulk d + 1
 end
def uptoSmall : (H : Type) → List (DataW H) → Bool := fun _ ds => decide (uptoBulkAll ds ≤ 1048576)
def OpenSpec.upto (s : _root_.Go.ChangeSpec) : _root_.Go.OpenSpec := { _root_.Go.OpenSpec.ofChange s with cond := some uptoSmall }

/-- 'pylonlaw24.StackPermutation', WHERE WHAT IT READS IS OF BULK AT MOST 1048576: true; the input reads as it did. -/
def stackPermutationUptoRow : OpenClaim := { program := "ytoiakikfehfklaa", sum := "be42d09dc01ac663aff9024a493ecbce051a7bad9740577dbdf9d3128ac31900", func := "pylon/pylonlaw24.StackPermutation", spec := "stackPermutation", unfollowed := true, recurses := true, apart := false, narrowed := true }
def StackPermutationUptoSaid : Prop := stackPermutationUptoRow.holds Try.pinned (OpenSpec.upto stackPermutationSpec)

/-- 'pylonlaw24.StackAddition', WHERE WHAT IT READS IS OF BULK AT MOST 1048576: true; the input reads as it did. -/
def stackAdditionUptoRow : OpenClaim := { program := "ytoiakikfehfklaa", sum := "be42d09dc01ac663aff9024a493ecbce051a7bad9740577dbdf9d3128ac31900", func := "pylon/pylonlaw24.StackAddition", spec := "stackAddition", unfollowed := true, recurses := true, apart := false, narrowed := true }
def StackAdditionUptoSaid : Prop := stackAdditionUptoRow.holds Try.pinned (OpenSpec.upto stackAdditionSpec)

end Rows
end Go.Proofs.Ytoiakikfehfklaa

/-
  No cell of these rows narrows 'for every input' (looked for: loops, veiled, ifaces, maps, wideKeys, modest, calm, conditions, laid).
  DERIVED. THE GIVEN ROWS OF THIS SEAT. 2 by the template 'for every input the law returns true; each argument reads behind the call as it read before'; 0 by the template 'total and deterministic' (their statements: YmwhazTotals.lean).
  GIVEN WITH THE SEED: the statements are not yours to turn. If you find one false, say at which input.
  Laid BY PROGRAM, IN A SANDBOX (cutbox-rows.mjs): the forced cells as the released guide's own fill.sh prints them over the translation 0d7099856d1e4b72… (all of the seat's roots in one cut). By AI agents, Wed Nov 11 2026. No macro, syntax, notation, axiom, sorry.
-/
import Derived.Test.YmwhazChecked
import GoSem.Claim
import GoSem.ClaimJoined
import GoSem.ClaimMapViews
import Derived.JoinedTies
import Derived.KernelRfl
namespace Go.Proofs.Ymwhaz
/- THE CELL 'sum', in the pinned program and in every row, IS THE sha256 OF THE DUMP (.gsa) THAT YmwhazProg.lean LOADS. Nothing in Lean hashes anything: it is a label: what it is worth is what the hold of that sum in a sandbox is worth. -/
noncomputable def Yazv.pinned : Pinned := { name := "ymwhaz", sum := "0d7099856d1e4b72e74e701ba03ea7f90b1bacd3619fa4366dcbbdaab1e43967", checked := Yazv.checked }
namespace Rows
def none {H : Type} : Left H := { results := [], args := [] }

/-- 'rational.LawS930017QABWhole': WHATEVER THE INPUT: true; the input reads as it did. -/
def lawS930017QABWholeSpec : ChangeSpec := { name := "lawS930017QABWhole", fn := fun _ => fun
  | [d1, d2] => { results := [.lit (.bool true)], args := [d1, d2] }
  | _ => none }
def lawS930017QABWholeRow : OpenClaim := { program := "ymwhaz", sum := "0d7099856d1e4b72e74e701ba03ea7f90b1bacd3619fa4366dcbbdaab1e43967", func := "example.com/own/rational.LawS930017QABWhole", spec := "lawS930017QABWhole", apart := false }
def LawS930017QABWholeSaid : Prop := lawS930017QABWholeRow.holds Yazv.pinned (OpenSpec.ofChange lawS930017QABWholeSpec)

/-- ITS FALSE NEIGHBOUR: 'it returns false'. Refute it at one input. -/
def lawS930017QABWholeWrong : ChangeSpec := { name := "lawS930017QABWhole", fn := fun _ => fun
  | [d1, d2] => { results := [.lit (.bool false)], args := [d1, d2] }
  | _ => none }
def LawS930017QABWholeWrongFalsely : Prop := lawS930017QABWholeRow.holds Yazv.pinned (OpenSpec.ofChange lawS930017QABWholeWrong)

/-- 'rational.LawS930017QAAWhole': WHATEVER THE INPUT: true; the input reads as it did. -/
def lawS930017QAAWholeSpec : ChangeSpec := { name := "lawS930017QAAWhole", fn := fun _ => fun
  | [d1, d2, d3, d4] => { results := [.lit (.bool true)], args := [d1, d2, d3, d4] }
  | _ => none }
def lawS930017QAAWholeRow : OpenClaim := { program := "ymwhaz", sum := "0d7099856d1e4b72e74e701ba03ea7f90b1bacd3619fa4366dcbbdaab1e43967", func := "example.com/own/rational.LawS930017QAAWhole", spec := "lawS930017QAAWhole", apart := false }
def LawS930017QAAWholeSaid : Prop := lawS930017QAAWholeRow.holds Yazv.pinned (OpenSpec.ofChange lawS930017QAAWholeSpec)

/-- ITS FALSE NEIGHBOUR: 'it returns false'. Refute it at one input. -/
def lawS930017QAAWholeWrong : ChangeSpec := { name := "lawS930017QAAWhole", fn := fun _ => fun
  | [d1, d2, d3, d4] => { results := [.lit (.bool false)], args := [d1, d2, d3, d4] }
  | _ => none }
def LawS930017QAAWholeWrongFalsely : Prop := lawS930017QAAWholeRow.holds Yazv.pinned (OpenSpec.ofChange lawS930017QAAWholeWrong)

end Rows
end Go.Proofs.Ymwhaz

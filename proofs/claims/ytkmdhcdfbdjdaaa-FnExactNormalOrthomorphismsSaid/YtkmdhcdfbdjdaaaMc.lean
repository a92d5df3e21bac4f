/-
Contracts of functions of the given program, by the abstract walk.
-/
import Derived.Test.YtkmdhcdfbdjdaaaAbsY
import Derived.Test.YtkmdhcdfbdjdaaaMb
namespace Go.Proofs.Ytkmdhcdfbdjdaaa
open Go Go.Abs
set_option linter.unusedVariables false
set_option linter.unusedSectionVars false
set_option linter.unusedSimpArgs false
set_option maxRecDepth 100000
def nV : Bool → List (List Int) → AV
  | false, _ => .ref .nils
  | true, L => .ref (.sl 50 0 0 0 L.length 10)
def SRes0 (L' : List (List Int)) (v : AV) (ms ns : List Blk) : Prop :=
  (L' = [] ∧ v = .ref .nils ∧ ms = [] ∧ ns = []) ∨ (v = .ref (.sl 1 0 0 0 L'.length 10) ∧ ms = [] ∧ ns = [plB L'])
end Go.Proofs.Ytkmdhcdfbdjdaaa

/-
Contracts of functions of the given program, by the abstract walk.
-/
import Derived.Test.YtnophcdinideaaaAbsW
import Derived.Test.YtnophcdinideaaaDd
namespace Go.Proofs.Ytnophcdinideaaa
open Go Go.Abs
set_option linter.unusedVariables false
set_option linter.unusedSectionVars false
set_option linter.unusedSimpArgs false
set_option maxRecDepth 100000
def idL (N : Nat) : List Int := mapL (fun i => i) N
theorem idL_bytes {N : Nat} (hN : N ≤ 10) : Bytes 10 (idL N) := mapL_bytes hN fun x h => by omega
end Go.Proofs.Ytnophcdinideaaa

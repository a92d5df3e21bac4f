/-
Contracts of functions of the given program, by the abstract walk.
-/
import Derived.Test.YtjmenocghjggcaaAbsY
import Derived.Test.YtjmenocghjggcaaCc
namespace Go.Proofs.Ytjmenocghjggcaa
open Go Go.Abs
set_option linter.unusedVariables false
set_option linter.unusedSectionVars false
set_option linter.unusedSimpArgs false
set_option maxRecDepth 100000
theorem sq_colget {t : List Int} (ht : Bytes 100 t) (x y : Nat) : t.getD (0 + x * 10 + y * 1) 0 = (cl t x y : Int) := by rw [Nat.zero_add, Nat.mul_one]; exact ht.cell x y
end Go.Proofs.Ytjmenocghjggcaa

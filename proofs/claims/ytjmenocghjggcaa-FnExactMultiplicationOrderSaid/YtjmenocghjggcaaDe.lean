/-
Contracts of functions of the given program, by the abstract walk.
-/
import Derived.Test.YtjmenocghjggcaaAbsY
import Derived.Test.YtjmenocghjggcaaDb
import Derived.Test.YtjmenocghjggcaaDd
namespace Go.Proofs.Ytjmenocghjggcaa
open Go Go.Abs
set_option linter.unusedVariables false
set_option linter.unusedSectionVars false
set_option linter.unusedSimpArgs false
set_option maxRecDepth 100000
def turnL (N : Nat) (t : List Int) (x : Nat) : List Int := mapL (fun z => fnd (fun i => cl t i x) (cl t x z) N) N
def leftL (N : Nat) (t : List Int) (x y : Nat) : List Int := mapL (fun z => fnd (cl t (cl t y x)) (cl t y (cl t x z)) N) N
def rightL (N : Nat) (t : List Int) (x y : Nat) : List Int := mapL (fun z => fnd (fun i => cl t i (cl t x y)) (cl t (cl t z x) y) N) N

end Go.Proofs.Ytjmenocghjggcaa

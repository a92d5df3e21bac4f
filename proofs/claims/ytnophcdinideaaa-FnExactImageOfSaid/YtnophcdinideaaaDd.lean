/-
Contracts of functions of the given program, by the abstract walk.
-/
import Derived.Test.YtnophcdinideaaaAbsW
import Derived.Test.YtnophcdinideaaaDa
namespace Go.Proofs.Ytnophcdinideaaa
open Go Go.Abs
set_option linter.unusedVariables false
set_option linter.unusedSectionVars false
set_option linter.unusedSimpArgs false
set_option maxRecDepth 100000
def rowL (t : List Int) (x : Nat) : List Int := (t.drop (0 + x * 10)).take 10
theorem pl_rowL {t : List Int} {x j : Nat} (hj : j < 10) : pl (rowL t x) j = cl t x j := by unfold Abs.pl cl rowL; rw [getD_sub, if_pos hj, Nat.zero_add]
theorem rowL_bytes {t : List Int} {x : Nat} (ht : Bytes 100 t) (hx : x < 10) : Bytes 10 (rowL t x) := ⟨by unfold rowL; exact sub_length (by have := ht.len; omega), fun i => by
  unfold rowL; rw [getD_sub]; split
  · exact ht.rng _
  · omega⟩
/-- For a square's column the map that stops at its order. -/
def colL (N : Nat) (t : List Int) (y : Nat) : List Int := mapL (fun x => cl t x y) N
theorem colL_bytes {N : Nat} {t : List Int} {y : Nat} (ht : Bytes 100 t) (hN : N ≤ 10) : Bytes 10 (colL N t y) := mapL_bytes hN fun x _ => ht.cell_lt x y

end Go.Proofs.Ytnophcdinideaaa

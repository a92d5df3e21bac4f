/-
Contracts of functions of the given program, by the abstract walk.
-/
import Derived.Test.YtjmenocghjggcaaAbsY
import Derived.Test.YtjmenocghjggcaaHc
import Derived.Test.YtjmenocghjggcaaDp
import Derived.Test.YtjmenocghjggcaaEb
namespace Go.Proofs.Ytjmenocghjggcaa
open Go Go.Abs
set_option linter.unusedVariables false
set_option linter.unusedSectionVars false
set_option linter.unusedSimpArgs false
set_option maxRecDepth 100000
/-! 'places' and the subloops that are groups -/
def AnyP (N : Nat) (g : Nat → Nat → Nat → Bool) : Prop := ∃ x y z, x < N ∧ y < N ∧ z < N ∧ g x y z = true
open Classical in
noncomputable def anyB (N : Nat) (g : Nat → Nat → Nat → Bool) : Bool := decide (AnyP N g)
theorem anyB_true {N : Nat} {g : Nat → Nat → Nat → Bool} (h : AnyP N g) : anyB N g = true := by unfold anyB; exact @decide_eq_true _ (_) h
theorem anyB_false {N : Nat} {g : Nat → Nat → Nat → Bool} (h : ¬AnyP N g) : anyB N g = false := by unfold anyB; exact @decide_eq_false _ (_) h
theorem anyB_iff {N : Nat} {g : Nat → Nat → Nat → Bool} : anyB N g = true ↔ AnyP N g := by unfold anyB; exact @decide_eq_true_iff _ (_)
/-- 'p' (the marks) are a group. -/
def GrpP (t : List Int) (p : Nat → Bool) : Prop := ∀ a b c, p a = true → p b = true → p c = true → assoc3 t a b c = true
open Classical in
noncomputable def grpB (t : List Int) (p : Nat → Bool) : Bool := decide (GrpP t p)
theorem grpB_true {t : List Int} {p : Nat → Bool} (h : GrpP t p) : grpB t p = true := by unfold grpB; exact @decide_eq_true _ (_) h
theorem grpB_false {t : List Int} {p : Nat → Bool} (h : ¬GrpP t p) : grpB t p = false := by unfold grpB; exact @decide_eq_false _ (_) h
theorem grpB_iff {t : List Int} {p : Nat → Bool} : grpB t p = true ↔ GrpP t p := by unfold grpB; exact @decide_eq_true_iff _ (_)
def two (x y z : Nat) : Prop := z = x ∨ z = y
noncomputable def mgB (N : Nat) (t : List Int) (x y : Nat) : Bool := grpB t (genB N t (two x y))
def mgG (s : Nat) (t : List Int) (x y z : Nat) : Bool := s.testBit x && s.testBit y && s.testBit z && !assoc3 t x y z
end Go.Proofs.Ytjmenocghjggcaa

/-
Contracts of functions of the given program, by the abstract walk.
-/
import Derived.Test.YtjmenocghjggcaaAbsY
import Derived.Test.YtjmenocghjggcaaDc
namespace Go.Proofs.Ytjmenocghjggcaa
open Go Go.Abs
set_option linter.unusedVariables false
set_option linter.unusedSectionVars false
set_option linter.unusedSimpArgs false
set_option maxRecDepth 100000
def AssocP (N : Nat) (t : List Int) : Prop := ∀ x, x < N → ∀ y, y < N → ∀ z, z < N → cl t (cl t x y) z = cl t x (cl t y z)
open Classical in
noncomputable def assocB (N : Nat) (t : List Int) : Bool := decide (AssocP N t)
theorem assocB_true {N : Nat} {t : List Int} (h : AssocP N t) : assocB N t = true := by unfold assocB; exact @decide_eq_true _ (_) h
theorem assocB_false {N : Nat} {t : List Int} (h : ¬AssocP N t) : assocB N t = false := by unfold assocB; exact @decide_eq_false _ (_) h
theorem assocB_iff {N : Nat} {t : List Int} : assocB N t = true ↔ AssocP N t := by unfold assocB; exact @decide_eq_true_iff _ (_)
noncomputable def groupB (n : Int) (t : List Int) : Bool := loopB n t && assocB n.toNat t
noncomputable def gcode (n : Int) (t : List Int) : Int := if sqB n t then (if groupB n t then 0 else 5) else 1
theorem gcode_zero {n : Int} {t : List Int} (h : gcode n t = 0) : SqP n t ∧ loopB n t = true ∧ AssocP n.toNat t := by
  unfold gcode at h
  split at h
  · rename_i h1
    split at h
    · rename_i h2
      simp only [groupB, Bool.and_eq_true] at h2
      exact ⟨sqB_iff.1 h1, h2.1, assocB_iff.1 h2.2⟩
    · omega
  · omega

end Go.Proofs.Ytjmenocghjggcaa

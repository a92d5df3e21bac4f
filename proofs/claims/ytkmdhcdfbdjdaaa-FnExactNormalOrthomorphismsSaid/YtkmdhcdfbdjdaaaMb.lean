/-
Contracts of functions of the given program, by the abstract walk.
-/
import Derived.Test.YtkmdhcdfbdjdaaaAbsY
import Derived.Test.YtkmdhcdfbdjdaaaMa
namespace Go.Proofs.Ytkmdhcdfbdjdaaa
open Go Go.Abs
set_option linter.unusedVariables false
set_option linter.unusedSectionVars false
set_option linter.unusedSimpArgs false
set_option maxRecDepth 100000
def plB (L : List (List Int)) : Blk := .lv true [(0, .ints .u8 (L.length * 10) L.flatten)]
theorem plB_ren {σ : Ren} {L : List (List Int)} : renBlk σ (plB L) = plB L := by simp [plB, renBlk, renSegs, renSg]
def boS (u : List Bool) : Segs := [(0, .bools 10 u)]
def SRes (L L' : List (List Int)) (v : AV) (ms ns : List Blk) : Prop :=
  (L' = L ∧ v = .ref (.sl 0 0 0 0 L.length 10) ∧ ms = [plB L] ∧ ns = []) ∨ (v = .ref (.sl 1 0 0 0 L'.length 10) ∧ ms = [.dead] ∧ ns = [plB L'])
/-- where the list lies: still the argument's block, or a block of one's own -/
def oV : Bool → List (List Int) → AV
  | false, L => .ref (.sl 0 0 0 0 L.length 10)
  | true, L => .ref (.sl 50 0 0 0 L.length 10)
def oA : Bool → List (List Int) → Blk
  | false, L => .lv true [(0, .ints .u8 (L.length * 10) L.flatten)]
  | true, _ => .dead
def oB : Bool → List (List Int) → List (Abs.Id × Blk)
  | false, _ => []
  | true, L => [((50, 0), .lv true [(0, .ints .u8 (L.length * 10) L.flatten)])]
def ltB (most : Nat) : Nat → Bool := fun n => decide (n < most)
end Go.Proofs.Ytkmdhcdfbdjdaaa

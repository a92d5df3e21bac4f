/-
Contracts of functions of the given program, by the abstract walk.
-/
import Derived.Test.YtjmenocghjggcaaAbsY
import Derived.Test.YtjmenocghjggcaaCc
namespace Go.Proofs.Ytjmenocghjggcaa
open Go Go.Abs
set_option linter.unusedVariables false
set_option linter.unusedSectionVars false
set_option linter.unusedSimpArgs false
set_option maxRecDepth 100000
/-- A slice of integers as a law's walk sees it. -/
def SlVal (k : IntKind) (A : Atom) (ms : List Blk) (xs : List Int) : Prop :=
  (A = .nils ∧ ms = [] ∧ xs = []) ∨ (A = .sl0 ∧ ms = [] ∧ xs = []) ∨ (A = .sl 0 0 0 0 xs.length 1 ∧ 0 < xs.length ∧ ms = [.lv false [(0, .ints k xs.length xs)]])
theorem slArg_val {W : World} {k : IntKind} {v : Value} {A : Atom} {ms : List Blk} {l : List (Nat × Nat × Nat)} {xs : List Int} (h : SlArg W k 0 v A ms l xs) : SlVal k A ms xs := by
  rcases h with ⟨_, rfl, rfl, _, rfl⟩ | ⟨_, _, _, rfl, rfl, _, rfl⟩ | ⟨_, _, _, _, _, rfl, h0, _, _, rfl, _⟩
  · exact .inl ⟨rfl, rfl, rfl⟩
  · exact .inr (.inl ⟨rfl, rfl, rfl⟩)
  · exact .inr (.inr ⟨rfl, h0, rfl⟩)

end Go.Proofs.Ytjmenocghjggcaa

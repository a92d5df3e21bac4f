/-
Contracts of functions of the given program, by the abstract walk.
-/
import Derived.Test.YtoccbgffekhcaaaAbsY
import Derived.Test.YtoccbgffekhcaaaGz
namespace Go.Proofs.Ytoccbgffekhcaaa
open Go Go.Abs
set_option linter.unusedVariables false
set_option linter.unusedSectionVars false
set_option linter.unusedSimpArgs false
set_option maxRecDepth 100000
/-- The same, where the list's block stands at the place j. -/
def SlValJ (k : IntKind) (j : Nat) (A : Atom) (ms : List Blk) (xs : List Int) : Prop :=
  (A = .nils ∧ ms = [] ∧ xs = []) ∨ (A = .sl0 ∧ ms = [] ∧ xs = []) ∨ (A = .sl 0 j 0 0 xs.length 1 ∧ 0 < xs.length ∧ ms = [.lv false [(0, .ints k xs.length xs)]])
theorem slArg_valJ {W : World} {k : IntKind} {j : Nat} {v : Value} {A : Atom} {ms : List Blk} {l : List (Nat × Nat × Nat)} {xs : List Int} (h : SlArg W k j v A ms l xs) : SlValJ k j A ms xs := by
  rcases h with ⟨_, rfl, rfl, _, rfl⟩ | ⟨_, _, _, rfl, rfl, _, rfl⟩ | ⟨_, _, _, _, _, rfl, h0, _, _, rfl, _⟩
  · exact .inl ⟨rfl, rfl, rfl⟩
  · exact .inr (.inl ⟨rfl, rfl, rfl⟩)
  · exact .inr (.inr ⟨rfl, h0, rfl⟩)
theorem roMem_len {W : World} : ∀ {ms : List Blk} {l : List (Nat × Nat × Nat)}, RoMem W ms l → ms.length = l.length
  | [], [], _ => rfl
  | _ :: ms, _ :: l, h => by have := roMem_len (ms := ms) (l := l) h.2; simp [this]
  | [], _ :: _, h => h.elim
  | _ :: _, [], h => h.elim

end Go.Proofs.Ytoccbgffekhcaaa

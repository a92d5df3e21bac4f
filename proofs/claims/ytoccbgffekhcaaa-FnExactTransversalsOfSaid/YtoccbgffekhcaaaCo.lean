/-
Contracts of functions of the given program, by the abstract walk.
-/
import Derived.Test.YtoccbgffekhcaaaAbsY
import Derived.Test.YtoccbgffekhcaaaCi
namespace Go.Proofs.Ytoccbgffekhcaaa
open Go Go.Abs
set_option linter.unusedVariables false
set_option linter.unusedSectionVars false
set_option linter.unusedSimpArgs false
set_option maxRecDepth 100000
def isoIn (t p q r : List Int) (x : Nat) (o : List Int) : Nat → List Int
  | 0 => o
  | y + 1 => (isoIn t p q r x o y).set (0 + pl p x * 10 + pl q y * 1) (r.getD (0 + cl t x y * 1) 0)
def isoT (N : Nat) (t p q r : List Int) : Nat → List Int
  | 0 => List.replicate 100 0
  | x + 1 => isoIn t p q r x (isoT N t p q r x) N
theorem isoIn_len {t p q r : List Int} {x : Nat} {o : List Int} : ∀ y, (isoIn t p q r x o y).length = o.length
  | 0 => rfl
  | y + 1 => by simp [isoIn, isoIn_len y]
theorem isoT_len {N : Nat} {t p q r : List Int} : ∀ x, (isoT N t p q r x).length = 100
  | 0 => by simp [isoT]
  | x + 1 => by simp [isoT, isoIn_len, isoT_len x]

theorem permP_lt {n : Int} {p : List Int} (h : PermP n p) {i : Nat} (hi : (i : Int) < n) : pl p i < 10 := by
  have h1 := h.1
  have h2 := h.2.1
  have := h.2.2 i (by omega)
  unfold permAt at this
  rw [if_pos (by omega)] at this
  omega
theorem sqP_lt {n : Int} {t : List Int} (h : SqP n t) {x y : Nat} (hx : (x : Int) < n) (hy : (y : Int) < n) : cl t x y < 10 := by
  have h1 := h.1
  have h2 := h.2.1
  have := (h.2.2 x (by omega)).1 y (by omega)
  rw [if_pos (by omega)] at this
  omega

end Go.Proofs.Ytoccbgffekhcaaa

/-
Contracts of functions of the given program, by the abstract walk.
-/
import Derived.Test.YtjmenocghjggcaaAbsY
import Derived.Test.YtjmenocghjggcaaHb
import Derived.Test.YtjmenocghjggcaaFb
import Derived.Test.YtjmenocghjggcaaGa
namespace Go.Proofs.Ytjmenocghjggcaa
open Go Go.Abs
set_option linter.unusedVariables false
set_option linter.unusedSectionVars false
set_option linter.unusedSimpArgs false
set_option maxRecDepth 100000
/-! lists of elements as sets; the subloop that they generate -/
def el (xs : List Int) (i : Nat) : Nat := (xs.getD i 0).toNat
def inL (xs : List Int) (k z : Nat) : Prop := ∃ i, i < k ∧ el xs i = z
theorem inL_step {xs : List Int} {i z : Nat} : inL xs (i + 1) z ↔ inL xs i z ∨ el xs i = z := by
  constructor
  · rintro ⟨j, h1, h2⟩
    by_cases e : j = i
    · subst e; exact .inr h2
    · exact .inl ⟨j, by omega, h2⟩
  · rintro (⟨j, h1, h2⟩ | h)
    · exact ⟨j, by omega, h2⟩
    · exact ⟨i, by omega, h⟩
def setN (xs : List Int) : Nat → Nat
  | 0 => 0
  | i + 1 => setN xs i ||| 2 ^ el xs i
theorem setN_bit {xs : List Int} {z : Nat} : ∀ {i}, (setN xs i).testBit z = true ↔ inL xs i z
  | 0 => by simp [setN, inL]
  | i + 1 => by rw [inL_step, ← setN_bit (i := i), setN]; simp only [Nat.testBit_or, Bool.or_eq_true, Nat.testBit_two_pow, decide_eq_true_iff]
theorem setN_lt {xs : List Int} {N : Nat} : ∀ {i}, (∀ j, j < i → el xs j < N) → setN xs i < 2 ^ N
  | 0, _ => by simp [setN, Nat.two_pow_pos]
  | i + 1, h => by rw [setN]; exact Nat.or_lt_two_pow (setN_lt fun j hj => h j (by omega)) (Nat.pow_lt_pow_right (by decide) (h i (by omega)))
def mkB (xs : List Int) : Nat → List Bool
  | 0 => List.replicate 10 false
  | i + 1 => (mkB xs i).set (el xs i) true
theorem mkB_len {xs : List Int} : ∀ {i}, (mkB xs i).length = 10
  | 0 => by simp [mkB]
  | i + 1 => by simp [mkB, mkB_len]
theorem mkB_get {xs : List Int} {z : Nat} : ∀ {i}, (∀ j, j < i → el xs j < 10) → ((mkB xs i).getD z false = true ↔ inL xs i z)
  | 0, _ => by
    have : (mkB xs 0).getD z false = false := by
      rw [mkB, List.getD_eq_getElem?_getD, List.getElem?_replicate]; split <;> rfl
    rw [this]; simp [inL]
  | i + 1, h => by
    rw [inL_step, ← mkB_get (i := i) fun j hj => h j (by omega), mkB, getD_setb (by rw [mkB_len]; exact h i (by omega))]
    by_cases e : el xs i = z
    · simp [e]
    · simp [e]
theorem ListP.el_eq {N : Nat} {xs : List Int} {k i : Nat} (h : ListP N xs 0 k) (hi : i < k) : xs.getD (0 + i * 1) 0 = ((el xs i : Nat) : Int) ∧ el xs i < N := by
  have h1 := (h i hi).1
  unfold el
  rw [Nat.zero_add, Nat.mul_one] at h1 ⊢
  omega
noncomputable def lcd1 (n : Int) (t : List Int) (xs : List Int) (k : Nat) : Int := if loopB n t then (if listB n.toNat xs 0 k then 0 else 2) else 1
end Go.Proofs.Ytjmenocghjggcaa

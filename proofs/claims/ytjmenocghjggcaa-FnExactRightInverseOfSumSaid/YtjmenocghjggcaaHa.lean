/-
Contracts of functions of the given program, by the abstract walk.
-/
import Derived.Test.YtjmenocghjggcaaAbsY
import Derived.Test.YtjmenocghjggcaaDo
import Derived.Test.YtjmenocghjggcaaDl
import Derived.Test.YtjmenocghjggcaaDc
namespace Go.Proofs.Ytjmenocghjggcaa
open Go Go.Abs
set_option linter.unusedVariables false
set_option linter.unusedSectionVars false
set_option linter.unusedSimpArgs false
set_option maxRecDepth 100000
/-! what elements generate -/
inductive Gen (N : Nat) (t : List Int) (S : Nat → Prop) : Nat → Prop
  | base {z : Nat} (h : S z) : Gen N t S z
  | zero : Gen N t S 0
  | mul {x y : Nat} (hx : Gen N t S x) (hy : Gen N t S y) : Gen N t S (cl t x y)
  | ldiv {x y : Nat} (hx : Gen N t S x) (hy : Gen N t S y) : Gen N t S (fnd (cl t x) y N)
  | rdiv {x y : Nat} (hx : Gen N t S x) (hy : Gen N t S y) : Gen N t S (fnd (fun i => cl t i y) x N)
open Classical in
noncomputable def genB (N : Nat) (t : List Int) (S : Nat → Prop) (z : Nat) : Bool := decide (Gen N t S z)
theorem genB_iff {N : Nat} {t : List Int} {S : Nat → Prop} {z : Nat} : genB N t S z = true ↔ Gen N t S z := by unfold genB; exact @decide_eq_true_iff _ (_)
theorem Gen.lt {N : Nat} {t : List Int} {S : Nat → Prop} {z : Nat} (hs : SqP N t) (hS : ∀ z, S z → z < N) (h : Gen N t S z) : z < N := by
  induction h with
  | base h => exact hS _ h
  | zero => exact hs.pos
  | mul _ _ h1 h2 => exact hs.cl_lt h1 h2
  | ldiv _ _ h1 h2 => exact PermF.fnd_lt (hs.rowP h1) hs.le h2
  | rdiv _ _ h1 h2 => exact PermF.fnd_lt (hs.colP h2) hs.le h1
/-- A set that holds what is asked and is closed holds all. -/
theorem Gen.sub {N : Nat} {t : List Int} {S P : Nat → Prop} {z : Nat} (h : Gen N t S z) (h0 : P 0) (hS : ∀ z, S z → P z) (hc : ∀ x y, P x → P y → P (cl t x y) ∧ P (fnd (cl t x) y N) ∧ P (fnd (fun i => cl t i y) x N)) : P z := by
  induction h with
  | base h => exact hS _ h
  | zero => exact h0
  | mul _ _ h1 h2 => exact (hc _ _ h1 h2).1
  | ldiv _ _ h1 h2 => exact (hc _ _ h1 h2).2.1
  | rdiv _ _ h1 h2 => exact (hc _ _ h1 h2).2.2
theorem bits_le {s n : Nat} (h : ∀ i, s.testBit i = true → n.testBit i = true) : s ≤ n := by
  have e : n = n ||| s := Nat.eq_of_testBit_eq fun i => by
    rw [Nat.testBit_or]
    cases hs : s.testBit i
    · simp
    · rw [h i hs]; rfl
  rw [e]; exact Nat.right_le_or
def Closes (N : Nat) (t : List Int) (n x y : Nat) : Prop := n.testBit (cl t x y) = true ∧ n.testBit (fnd (cl t x) y N) = true ∧ n.testBit (fnd (fun i => cl t i y) x N) = true
theorem or3_bits {n a b c : Nat} (i : Nat) : (n ||| (2 ^ a ||| 2 ^ b ||| 2 ^ c)).testBit i = true ↔ n.testBit i = true ∨ a = i ∨ b = i ∨ c = i := by
  simp only [Nat.testBit_or, Bool.or_eq_true, Nat.testBit_two_pow, decide_eq_true_iff, or_assoc]
theorem setM_eq' {p : Nat → Bool} {N s : Nat} (h1 : ∀ i, s.testBit i = true → i < N) (h2 : ∀ i, i < N → s.testBit i = p i) : s = setM p N := by
  apply Nat.eq_of_testBit_eq
  intro i
  rw [setM_bit]
  by_cases h : i < N
  · rw [decide_eq_true h, Bool.true_and, h2 i h]
  · rw [decide_eq_false h, Bool.false_and]
    cases e : s.testBit i
    · rfl
    · exact absurd (h1 i e) h
end Go.Proofs.Ytjmenocghjggcaa

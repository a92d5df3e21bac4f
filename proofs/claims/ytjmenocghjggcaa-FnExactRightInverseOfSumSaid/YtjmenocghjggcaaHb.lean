/-
Contracts of functions of the given program, by the abstract walk.
-/
import Derived.Test.YtjmenocghjggcaaAbsY
import Derived.Test.YtjmenocghjggcaaHa
namespace Go.Proofs.Ytjmenocghjggcaa
open Go Go.Abs
set_option linter.unusedVariables false
set_option linter.unusedSectionVars false
set_option linter.unusedSimpArgs false
set_option maxRecDepth 100000
def opC (j : Nat) : Int := if j = 0 then 42 else if j = 1 then 92 else 47
def opz (N : Nat) (t : List Int) (x y j : Nat) : Nat := applyN N t (opC j) x y
noncomputable def genL (N : Nat) (t : List Int) (S : Nat → Prop) : List Bool := (List.range 10).map (genB N t S)
theorem genL_get {N : Nat} {t : List Int} {S : Nat → Prop} {z : Nat} (hz : z < 10) : (genL N t S).getD z false = genB N t S z := by simp [genL, hz]
theorem boolsExt {a b : List Bool} (h : a.length = b.length) (he : ∀ i, i < a.length → a.getD i false = b.getD i false) : a = b := by
  apply List.ext_getElem h
  intro i h1 h2
  have := he i h1
  simpa [h1, h2] using this
theorem count_lt {m : List Bool} {i : Nat} (h : i < m.length) (hb : m.getD i false = false) : (m.set i true).count false < m.count false := by
  have h2 : m[i] = false := by simpa [h] using hb
  rw [List.count_set h]
  have h3 : 0 < m.count false := List.count_pos_iff.2 (h2 ▸ List.getElem_mem h)
  simp [h2]
  omega
theorem getD_lt {m : List Bool} {i : Nat} (h : m.getD i false = true) : i < m.length := by
  apply Decidable.byContradiction; intro hn
  have : m.getD i false = false := by simp [show m.length ≤ i by omega]
  rw [this] at h; cases h
/-- What a pass over the pairs knows: the marks hold nothing but what is generated; 'ch' tells whether the pass began with fewer. -/
structure Pass (N : Nat) (t : List Int) (S : Nat → Prop) (m0 m : List Bool) (ch : Bool) : Prop where
  len : m.length = 10
  zero : m.getD 0 false = true
  base : ∀ z, S z → m.getD z false = true
  gen : ∀ z, m.getD z false = true → Gen N t S z
  same : ch = false → m = m0
  more : ch = true → m.count false < m0.count false
  le : m.count false ≤ m0.count false
def CloB (N : Nat) (t : List Int) (m : List Bool) (x y : Nat) : Prop := ∀ j, j < 3 → m.getD (opz N t x y j) false = true
theorem Pass.put {N : Nat} {t : List Int} {S : Nat → Prop} {m0 m : List Bool} {ch : Bool} {z : Nat} (h : Pass N t S m0 m ch) (hz : z < 10) (hn : m.getD z false = false) (hg : Gen N t S z) : Pass N t S m0 (m.set z true) true := by
  have hl := h.len
  have hc := count_lt (m := m) (i := z) (by omega) hn
  have hle := h.le
  refine ⟨by simpa using hl, ?_, fun w hw => ?_, fun w hw => ?_, fun e => (by cases e), fun _ => by omega, by omega⟩
  · rw [getD_setb (by omega)]; split
    · rfl
    · exact h.zero
  · rw [getD_setb (by omega)]; split
    · rfl
    · exact h.base w hw
  · rw [getD_setb (by omega)] at hw
    split at hw
    · rename_i e; subst e; exact hg
    · exact h.gen w hw
theorem opz_gen {N : Nat} {t : List Int} {S : Nat → Prop} {x y j : Nat} (hx : Gen N t S x) (hy : Gen N t S y) : Gen N t S (opz N t x y j) := by
  unfold opz opC
  by_cases h0 : j = 0
  · rw [if_pos h0, applyN, if_pos rfl]; exact .mul hx hy
  · rw [if_neg h0]
    by_cases h1 : j = 1
    · rw [if_pos h1, applyN, if_neg (by decide), if_neg (by decide)]; exact .ldiv hx hy
    · rw [if_neg h1, applyN, if_neg (by decide), if_pos rfl]; exact .rdiv hx hy
end Go.Proofs.Ytjmenocghjggcaa

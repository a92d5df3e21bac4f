/-
Contracts of functions of the given program, by the abstract walk.
-/
import Derived.Test.YtjmenocghjggcaaAbsY
import Derived.Test.YtjmenocghjggcaaCc
namespace Go.Proofs.Ytjmenocghjggcaa
open Go Go.Abs
set_option linter.unusedVariables false
set_option linter.unusedSectionVars false
set_option linter.unusedSimpArgs false
set_option maxRecDepth 100000
/-- The entries of a square along a permutation. -/
def dg (t c : List Int) (x : Nat) : Nat := cl t x (pl c x)
def TvP (N : Nat) (t c : List Int) : Prop := ∀ x, x < N → ∀ y, y < x → dg t c y ≠ dg t c x
open Classical in
noncomputable def tvB (N : Nat) (t c : List Int) : Bool := decide (TvP N t c)
theorem tvB_true {N : Nat} {t c : List Int} (h : TvP N t c) : tvB N t c = true := by unfold tvB; exact @decide_eq_true _ (_) h
theorem tvB_false {N : Nat} {t c : List Int} (h : ¬TvP N t c) : tvB N t c = false := by unfold tvB; exact @decide_eq_false _ (_) h
theorem tvB_iff {N : Nat} {t c : List Int} : tvB N t c = true ↔ TvP N t c := by unfold tvB; exact @decide_eq_true_iff _ (_)
theorem pl_lt_n {N : Nat} {p : List Int} (h : PermP N p) {i : Nat} (hi : i < N) : pl p i < N := by
  have h2 := h.2.1
  have := h.2.2 i (by omega)
  unfold permAt at this
  rw [if_pos (by omega)] at this
  have h3 : (N : Int).toNat = N := by omega
  omega
theorem cl_lt_n {N : Nat} {t : List Int} (h : SqP N t) {x y : Nat} (hx : x < N) (hy : y < N) : cl t x y < N := by
  have h2 := h.2.1
  have := (h.2.2 x (by omega)).1 y (by omega)
  rw [if_pos (by omega)] at this
  omega
theorem dg_lt {N : Nat} {t c : List Int} (hs : SqP N t) (hp : PermP N c) {x : Nat} (hx : x < N) : dg t c x < N := cl_lt_n hs hx (pl_lt_n hp hx)

end Go.Proofs.Ytjmenocghjggcaa

/-
Contracts of functions of the given program, by the abstract walk.
-/
import Derived.Test.YtjmenocghjggcaaAbsY
import Derived.Test.YtjmenocghjggcaaDp
import Derived.Test.YtjmenocghjggcaaDg
namespace Go.Proofs.Ytjmenocghjggcaa
open Go Go.Abs
set_option linter.unusedVariables false
set_option linter.unusedSectionVars false
set_option linter.unusedSimpArgs false
set_option maxRecDepth 100000
/-- What commutes with all elements, up to some place. -/
def comR (t : List Int) (a : Nat) : Nat → Bool
  | 0 => true
  | y + 1 => comR t a y && decide (cl t a y = cl t y a)
theorem comR_iff {t : List Int} {a : Nat} : ∀ {n}, comR t a n = true ↔ ∀ y, y < n → cl t a y = cl t y a
  | 0 => by simp [comR]
  | n + 1 => by
    rw [comR, Bool.and_eq_true, comR_iff, decide_eq_true_eq]
    constructor
    · rintro ⟨h1, h2⟩ y hy
      by_cases e : y = n
      · subst e; exact h2
      · exact h1 y (by omega)
    · intro h; exact ⟨fun y hy => h y (by omega), h n (by omega)⟩
theorem row_col {N : Nat} {t : List Int} (ht : Bytes 100 t) (hs : SqP N t) {a : Nat} (ha : a < N) : rowL t a = colL N t a ↔ comR t a N = true := by
  have hN := hs.le
  rw [comR_iff]
  constructor
  · intro h y hy
    have := congrArg (fun l => pl l y) h
    simp only [pl_rowL (show y < 10 by omega)] at this
    rw [this]; exact pl_mapL hN hy
  · intro h
    refine places_ext (rowL_bytes ht (by omega)) (colL_bytes ht hN) fun i hi => ?_
    rw [pl_rowL hi]
    by_cases h1 : i < N
    · rw [h i h1]; exact (pl_mapL (g := fun x => cl t x a) hN h1).symm
    · rw [hs.zero (by omega) hi (by omega)]; exact (pl_mapL0 (g := fun x => cl t x a) hN h1).symm
noncomputable def nucP (N : Nat) (t : List Int) (a : Nat) : Bool := nucB 0 N t a && nucB 1 N t a && nucB 2 N t a
noncomputable def cenP (N : Nat) (t : List Int) (a : Nat) : Bool := comR t a N && nucP N t a
/-- The entries of a list, up to some place, for which something is so. -/
def filR (q : Nat → Bool) (L : List Int) : Nat → List Int
  | 0 => []
  | i + 1 => if q (L.getD i 0).toNat then filR q L i ++ [L.getD i 0] else filR q L i
theorem filR_len {q : Nat → Bool} {L : List Int} : ∀ {i}, (filR q L i).length ≤ i
  | 0 => by simp [filR]
  | i + 1 => by have := filR_len (q := q) (L := L) (i := i); unfold filR; split <;> simp <;> omega
theorem filR_take {q : Nat → Bool} {L : List Int} : ∀ {i}, i ≤ L.length → filR q L i = (L.take i).filter (fun x => q x.toNat)
  | 0, _ => by simp [filR]
  | i + 1, h => by
    have h1 : L.getD i 0 = L[i] := by simp [show i < L.length by omega]
    rw [filR, filR_take (by omega), List.take_succ_eq_append_getElem (by omega), List.filter_append, h1]
    cases hq : q (L[i]).toNat <;> simp [hq]
theorem filR_all {q : Nat → Bool} {L : List Int} : filR q L L.length = L.filter (fun x => q x.toNat) := by
  rw [filR_take (Nat.le_refl _), List.take_length]
theorem memL_getD {p : Nat → Bool} {N i : Nat} (h : i < (memL p N).length) : ∃ a : Nat, (memL p N).getD i 0 = a ∧ a < N ∧ p a = true := by
  have h1 : (memL p N).getD i 0 ∈ memL p N := by simp [h]
  obtain ⟨a, e, h2, h3⟩ := memL_mem.1 h1
  exact ⟨a, e, h2, h3⟩
end Go.Proofs.Ytjmenocghjggcaa

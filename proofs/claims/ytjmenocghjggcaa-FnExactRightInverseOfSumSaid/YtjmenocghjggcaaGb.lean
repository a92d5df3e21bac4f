/-
Contracts of functions of the given program, by the abstract walk.
-/
import Derived.Test.YtjmenocghjggcaaAbsY
import Derived.Test.YtjmenocghjggcaaGa
namespace Go.Proofs.Ytjmenocghjggcaa
open Go Go.Abs
set_option linter.unusedVariables false
set_option linter.unusedSectionVars false
set_option linter.unusedSimpArgs false
set_option maxRecDepth 100000
def sumN (xs : List Int) : Nat → Int
  | 0 => 0
  | i + 1 => sumN xs i + xs.getD (0 + i * 1) 0
theorem sumN_le {p : Int} {N : Nat} {xs : List Int} {k : Nat} (hp : PrP p) (h : SumP p N xs k) : ∀ {i}, i ≤ k → 0 ≤ sumN xs i ∧ sumN xs i ≤ 7 * i
  | 0, _ => by simp [sumN]
  | i + 1, hi => by
    have h1 := sumN_le hp h (show i ≤ k by omega)
    have h2 := h.1 i (by omega)
    have h3 := hp.le
    rw [sumN, Nat.zero_add, Nat.mul_one]
    omega
noncomputable def augAV (n : Int) (t : List Int) (p : Int) (xs : List Int) (k : Nat) : AV := if rcd1 n t p xs k = 0 then .tup [.i .i64 ((sumN xs k).tmod p), .i .i64 0] else .tup [.i .i64 0, .i .i64 (rcd1 n t p xs k)]
theorem aug_form (n : Int) (t : List Int) (p : Int) (xs : List Int) (k : Nat) (ht : Bytes 100 t) : ∃ b e, augAV n t p xs k = .tup [.i .i64 b, .i .i64 e] := by
  unfold augAV; split <;> exact ⟨_, _, rfl⟩
theorem rcd1_zero {n : Int} {t : List Int} {p : Int} {xs : List Int} {k : Nat} (h : rcd1 n t p xs k = 0) : loopB n t = true ∧ PrP p ∧ SumP p n.toNat xs k := by
  unfold rcd1 at h
  split at h
  · rename_i h1
    split at h
    · rename_i h2
      rw [Bool.and_eq_true] at h2
      exact ⟨h1, of_decide_eq_true h2.1, sumB_iff.1 h2.2⟩
    · omega
  · omega
theorem loopB_le {n : Int} {t : List Int} (h : loopB n t = true) : n.toNat ≤ 10 := by
  simp only [loopB, Bool.and_eq_true] at h; have := (sqB_iff.1 h.1).2.1; omega
end Go.Proofs.Ytjmenocghjggcaa

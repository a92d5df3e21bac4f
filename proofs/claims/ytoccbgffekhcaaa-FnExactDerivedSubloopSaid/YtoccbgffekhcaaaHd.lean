/-
Contracts of functions of the given program, by the abstract walk.
-/
import Derived.Test.YtoccbgffekhcaaaAbsY
import Derived.Test.YtoccbgffekhcaaaHc
import Derived.Test.YtoccbgffekhcaaaGb
import Derived.Test.YtoccbgffekhcaaaDp
namespace Go.Proofs.Ytoccbgffekhcaaa
open Go Go.Abs
set_option linter.unusedVariables false
set_option linter.unusedSectionVars false
set_option linter.unusedSimpArgs false
set_option maxRecDepth 100000
open Classical in
noncomputable def subB (N : Nat) (t : List Int) (xs : List Int) (k : Nat) : Bool := decide (∀ z, Gen N t (inL xs k) z → inL xs k z)
theorem subB_iff {N : Nat} {t : List Int} {xs : List Int} {k : Nat} : subB N t xs k = true ↔ ∀ z, Gen N t (inL xs k) z → inL xs k z := by unfold subB; exact @decide_eq_true_iff _ (_)
theorem ListP.inL_lt {N : Nat} {xs : List Int} {k z : Nat} (h : ListP N xs 0 k) (hz : inL xs k z) : z < N := by
  obtain ⟨j, hj, rfl⟩ := hz; exact (h.el_eq hj).2
theorem lcd1_zero {n : Int} {t : List Int} {xs : List Int} {k : Nat} (h : lcd1 n t xs k = 0) : loopB n t = true ∧ ListP n.toNat xs 0 k := by
  unfold lcd1 at h
  split at h
  · rename_i h1
    split at h
    · rename_i h2; exact ⟨h1, listB_iff.1 h2⟩
    · omega
  · omega
noncomputable def subAV (n : Int) (t : List Int) (xs : List Int) (k : Nat) : AV := if lcd1 n t xs k = 0 then .tup [.b (subB n.toNat t xs k), .i .i64 0] else .tup [.b false, .i .i64 (lcd1 n t xs k)]
theorem sub_form (n : Int) (t : List Int) (xs : List Int) (k : Nat) (ht : Bytes 100 t) : ∃ b e, subAV n t xs k = .tup [.b b, .i .i64 e] := by
  unfold subAV; split <;> exact ⟨_, _, rfl⟩
theorem loopB_nat {n : Int} {t : List Int} (h : loopB n t = true) : ∃ N : Nat, n = N ∧ SqP N t := by
  have hs : SqP n t := by simp only [loopB, Bool.and_eq_true] at h; exact sqB_iff.1 h.1
  refine ⟨n.toNat, by have := hs.1; omega, ?_⟩
  rw [show ((n.toNat : Nat) : Int) = n by have := hs.1; omega]; exact hs
noncomputable def sgL (n : Int) (t : List Int) (xs : List Int) (k : Nat) : List Int := memL (genB n.toNat t (inL xs k)) n.toNat
theorem sgL_len {n : Int} {t : List Int} {xs : List Int} {k : Nat} (h : decide (lcd1 n t xs k = 0) = true) : (sgL n t xs k).length < 2 ^ 40 := by
  have := loopB_le (lcd1_zero (of_decide_eq_true h)).1
  have := memL_len (p := genB n.toNat t (inL xs k)) (k := n.toNat)
  unfold sgL; omega

end Go.Proofs.Ytoccbgffekhcaaa

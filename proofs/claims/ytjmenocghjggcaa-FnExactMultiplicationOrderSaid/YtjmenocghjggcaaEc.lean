/-
Contracts of functions of the given program, by the abstract walk.
-/
import Derived.Test.YtjmenocghjggcaaAbsY
import Derived.Test.YtjmenocghjggcaaDn
import Derived.Test.YtjmenocghjggcaaDu
import Derived.Test.YtjmenocghjggcaaCc
namespace Go.Proofs.Ytjmenocghjggcaa
open Go Go.Abs
set_option linter.unusedVariables false
set_option linter.unusedSectionVars false
set_option linter.unusedSimpArgs false
set_option maxRecDepth 100000
def odg (N : Nat) (t p : List Int) (x : Nat) : Nat := cl t (invN N t x) (pl p x)
theorem odg_lt {N : Nat} {t p : List Int} (hs : SqP N t) (hp : PermP N p) {x : Nat} (hx : x < N) : odg N t p x < N := cl_lt_n hs (invN_lt hs hx) (pl_lt_n hp hx)
def OrP (N : Nat) (t p : List Int) : Prop := ∀ x, x < N → ∀ y, y < x → odg N t p y ≠ odg N t p x
open Classical in
noncomputable def orB (N : Nat) (t p : List Int) : Bool := decide (OrP N t p)
theorem orB_true {N : Nat} {t c : List Int} (h : OrP N t c) : orB N t c = true := by unfold orB; exact @decide_eq_true _ (_) h
theorem orB_false {N : Nat} {t c : List Int} (h : ¬OrP N t c) : orB N t c = false := by unfold orB; exact @decide_eq_false _ (_) h
theorem orB_iff {N : Nat} {t c : List Int} : orB N t c = true ↔ OrP N t c := by unfold orB; exact @decide_eq_true_iff _ (_)
noncomputable def ocd (n : Int) (t p : List Int) : Int := if sqB n t && permB n p then gcode n t else 1
theorem ocd_zero {n : Int} {t p : List Int} (h : ocd n t p = 0) : SqP n t ∧ PermP n p := by
  unfold ocd at h
  split at h
  · rename_i h1
    rw [Bool.and_eq_true] at h1
    exact ⟨sqB_iff.1 h1.1, permB_iff.1 h1.2⟩
  · omega
noncomputable def orthAV (n : Int) (t p : List Int) : AV := if ocd n t p = 0 then .tup [.b (orB n.toNat t p), .i .i64 0] else .tup [.b false, .i .i64 (ocd n t p)]
theorem orth_form (n : Int) (t p : List Int) (ht : Bytes 100 t) (hp : Bytes 10 p) : ∃ b e, orthAV n t p = .tup [.b b, .i .i64 e] := by
  unfold orthAV; split <;> exact ⟨_, _, rfl⟩
def omG (N : Nat) (t p : List Int) (x y : Nat) : Nat := cl t x (pl p (cl t (invN N t x) y))
noncomputable def omcode (n : Int) (t p : List Int) : Int := if ocd n t p = 0 then (if orB n.toNat t p then 0 else 5) else ocd n t p
noncomputable def omAV (n : Int) (t p : List Int) : AV := resSq (omcode n t p) n (mkT (omG n.toNat t p) n.toNat n.toNat)
theorem om_form (n : Int) (t p : List Int) (ht : Bytes 100 t) (hp : Bytes 10 p) : ∃ m s e, s.length = 100 ∧ omAV n t p = .tup [.agg (sqS m s), .i .i64 e] := resSq_form _ _ mkT_len
end Go.Proofs.Ytjmenocghjggcaa

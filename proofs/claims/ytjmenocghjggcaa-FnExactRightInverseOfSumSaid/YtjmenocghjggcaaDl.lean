/-
Contracts of functions of the given program, by the abstract walk.
-/
import Derived.Test.YtjmenocghjggcaaAbsY
import Derived.Test.YtjmenocghjggcaaDh
import Derived.Test.YtjmenocghjggcaaDi
namespace Go.Proofs.Ytjmenocghjggcaa
open Go Go.Abs
set_option linter.unusedVariables false
set_option linter.unusedSectionVars false
set_option linter.unusedSimpArgs false
set_option maxRecDepth 100000
def paraG (N : Nat) (t : List Int) (k : Int) (x y : Nat) : Nat :=
  if k = 0 then cl t x y else if k = 1 then cl t y x else if k = 2 then fnd (cl t x) y N else if k = 3 then fnd (fun i => cl t i y) x N else if k = 4 then fnd (cl t y) x N else fnd (fun i => cl t i x) y N
theorem para_cases {k : Int} (h : 0 ≤ k ∧ k ≤ 5) : k = 0 ∨ k = 1 ∨ k = 2 ∨ k = 3 ∨ k = 4 ∨ k = 5 := by omega
theorem paraG_lt {N : Nat} {t : List Int} (hs : SqP N t) {k : Int} {x y : Nat} (hx : x < N) (hy : y < N) : paraG N t k x y < N := by
  unfold paraG
  split
  · exact hs.cl_lt hx hy
  · split
    · exact hs.cl_lt hy hx
    · split
      · exact PermF.fnd_lt (hs.rowP hx) hs.le hy
      · split
        · exact PermF.fnd_lt (hs.colP hy) hs.le hx
        · split
          · exact PermF.fnd_lt (hs.rowP hy) hs.le hx
          · exact PermF.fnd_lt (hs.colP hx) hs.le hy
theorem paraG_bytes {N : Nat} {t : List Int} (hs : SqP N t) {k : Int} : Bytes 100 (mkT (paraG N t k) N N) :=
  mkT_bytes hs.le fun x y hx hy => by have := paraG_lt (k := k) hs hx hy; have := hs.le; omega

def applyN (N : Nat) (t : List Int) (op : Int) (a b : Nat) : Nat := if op = 42 then cl t a b else if op = 47 then fnd (fun i => cl t i b) a N else fnd (cl t a) b N
theorem applyN_lt {N : Nat} {t : List Int} (hs : SqP N t) {k : Int} {x y : Nat} (hx : x < N) (hy : y < N) : applyN N t k x y < N := by
  unfold applyN
  split
  · exact hs.cl_lt hx hy
  · split
    · exact PermF.fnd_lt (hs.colP hy) hs.le hx
    · exact PermF.fnd_lt (hs.rowP hx) hs.le hy
noncomputable def pcode (n : Int) (t : List Int) (k : Int) : Int := if sqB n t then (if 0 ≤ k ∧ k ≤ 5 then 0 else 2) else 1
noncomputable def paraAV (n : Int) (t : List Int) (k : Int) : AV := resSq (pcode n t k) n (mkT (paraG n.toNat t k) n.toNat n.toNat)
theorem para_form (n : Int) (t : List Int) (k : Int) (ht : Bytes 100 t) (hk : -2 ^ 63 ≤ k ∧ k < 2 ^ 63) : ∃ m s e, s.length = 100 ∧ paraAV n t k = .tup [.agg (sqS m s), .i .i64 e] := resSq_form _ _ mkT_len
end Go.Proofs.Ytjmenocghjggcaa

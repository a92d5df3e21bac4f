/-
Contracts of functions of the given program, by the abstract walk.
-/
import Derived.Test.YtoccbgffekhcaaaAbsY
import Derived.Test.YtoccbgffekhcaaaKb
namespace Go.Proofs.Ytoccbgffekhcaaa
open Go Go.Abs
set_option linter.unusedVariables false
set_option linter.unusedSectionVars false
set_option linter.unusedSimpArgs false
set_option maxRecDepth 100000
theorem SolP.not_len {N : Nat} {LL : LLs} {x : Nat} (hx : x < N) (h : (at_ LL x).length ≠ N) : ¬SolP N LL := fun hs => h (hs x hx).1
theorem SolP.not_val {N : Nat} {LL : LLs} {x y : Nat} (hx : x < N) (hy : y < N) (h : ¬(0 ≤ (at_ LL x).getD y 0 ∧ (at_ LL x).getD y 0 ≤ (N : Int) - 1)) : ¬SolP N LL := fun hs => h ((hs x hx).2 y hy)
theorem solB_no {LL : LLs} (h : ¬SolP LL.length LL) : solB LL = false := solB_false fun hh => h hh.2.2
theorem sol_form' (LL : LLs) (hl : ∀ i, i < LL.length → (at_ LL i).length ≤ 2 ^ 20) (hm : LL.length ≤ 2 ^ 20) : ∃ k s e, s.length = 100 ∧ solR LL = .tup [.agg (sqS k s), .i .i64 e] := sol_form LL

end Go.Proofs.Ytoccbgffekhcaaa

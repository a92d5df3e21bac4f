/-
Contracts of functions of the given program, by the abstract walk.
-/
import Derived.Test.YtcaadjjgggjefaaAbsY
import Derived.Test.YtcaadjjgggjefaaJa
namespace Go.Proofs.Ytcaadjjgggjefaa
open Go Go.Abs
set_option linter.unusedVariables false
set_option linter.unusedSectionVars false
set_option linter.unusedSimpArgs false
set_option maxRecDepth 100000
/-! a law's head, with the rest of its code left closed -/
theorem awp_rest {P : Program} {a b : Code} {env : Env} {m : Mem} {K : Exit → Env → Mem → Prop} (h : ∀ rest, rest = b → awp P (.seq a rest) env m K) : awp P (.seq a b) env m K := h b rfl
theorem SlOf.any {j : Nat} {A : Atom} {B : Blk} {xs : List Int} (h : SlOf .i64 j A B xs) : SlAny j A B xs := by
  rcases h with ⟨h, _, h'⟩ | ⟨h, _, h'⟩ | h
  · exact .inl ⟨h, h'⟩
  · exact .inr (.inl ⟨h, h'⟩)
  · exact .inr (.inr h)
theorem toInts_o {j : Nat} {A : Atom} {B : Blk} {xs : List Int} (hA : SlOf .i64 j A B xs) {m : Mem} (hg : m.get 0 j = B) (hx : xs.length ≤ 2 ^ 20) {K : AV → Ups → List Abs.Id → Prop}
    (hK : ∀ ups rd, m.upd ups = m.upd [((m.next, 0), .lv true [(0, .ints .i64 xs.length xs)])] → K (.ref (.sl m.next 0 0 0 xs.length 1)) ups rd) : CallsVia Try.prog 36 [.ref A] m K := toInts_any (SlOf.any hA) hg hx hK
theorem SlOf.ren {k : IntKind} {j : Nat} {A : Atom} {B : Blk} {xs : List Int} (h : SlOf k j A B xs) (σ : Ren) : renBlk σ B = B := by
  rcases h with ⟨_, rfl, _⟩ | ⟨_, rfl, _⟩ | ⟨_, rfl⟩ <;> rfl

end Go.Proofs.Ytcaadjjgggjefaa

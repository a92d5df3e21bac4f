/-
Contracts of functions of the given program, by the abstract walk.
-/
import Derived.Test.YtoccbgffekhcaaaAbsY
import Derived.Test.YtoccbgffekhcaaaKc
import Derived.Test.YtoccbgffekhcaaaDc
namespace Go.Proofs.Ytoccbgffekhcaaa
open Go Go.Abs
set_option linter.unusedVariables false
set_option linter.unusedSectionVars false
set_option linter.unusedSimpArgs false
set_option maxRecDepth 100000
theorem ms1_len {LL : LLs} : (ms1 LL).length = LL.length + 1 := by simp [ms1, inn_len]
theorem ms1_live {LL : LLs} : ∀ b ∈ ms1 LL, b ≠ .dead := by
  intro b hb
  rcases List.mem_cons.1 hb with rfl | hb
  · simp [ob]
  · obtain ⟨i, _, rfl⟩ := List.mem_map.1 hb; simp [ib]
theorem ms1_st {LL : LLs} : StMs (ms1 LL) := by
  intro σ hσ
  rw [ms1_len] at hσ
  have e2 : renBlk σ (ob 0 1 LL) = ob 0 1 LL := ob_ren fun i hi => hσ (1 + i) (by omega)
  rw [ms1, List.map_cons, inn_ren, e2]
theorem CallsVia.allV {P : Program} {f : FuncId} {vs : List AV} {ms : List Blk} {loc : Loc} {n : Nat} {v : AV} (hl : ∀ b ∈ ms, b ≠ .dead) (hst : StMs ms) (hv : StVs ms vs) (hr : ∀ σ, renV σ v = v)
    (h : ACalls P f vs ms (fun r ms' ns => r = v ∧ ms' = ms ∧ ns = [])) {K : AV → Ups → List Abs.Id → Prop} (hK : ∀ ups rd, (∀ n, (Mem.mk ms loc n).upd ups = ⟨ms, loc, n⟩) → K v ups rd) : CallsVia P f vs ⟨ms, loc, n⟩ K := by
  refine CallsVia.all (R := fun r ns => r = v ∧ ns = []) hl hst hv (h.mono fun r xs ns ⟨a, b, c⟩ => ⟨⟨a, c⟩, b⟩) ?_
  rintro _ _ ups rd ⟨rfl, rfl⟩ hu
  rw [hr]
  simp only [newUps, List.append_nil]
  exact hK ups rd hu
def CocP (N : Nat) (k : Int) (LL : LLs) : Prop := LL.length = N ∧ ∀ x, x < N → (at_ LL x).length = N ∧ ∀ y, y < N → (0 ≤ (at_ LL x).getD y 0 ∧ (at_ LL x).getD y 0 ≤ k - 1) ∧ (x = 0 ∨ y = 0 → (at_ LL x).getD y 0 = 0)
open Classical in
noncomputable def cocB (N : Nat) (k : Int) (LL : LLs) : Bool := decide (CocP N k LL)
theorem cocB_true {N : Nat} {k : Int} {LL : LLs} (h : CocP N k LL) : cocB N k LL = true := by unfold cocB; exact @decide_eq_true _ (_) h
theorem cocB_false {N : Nat} {k : Int} {LL : LLs} (h : ¬CocP N k LL) : cocB N k LL = false := by unfold cocB; exact @decide_eq_false _ (_) h
theorem cocB_iff {N : Nat} {k : Int} {LL : LLs} : cocB N k LL = true ↔ CocP N k LL := by unfold cocB; exact @decide_eq_true_iff _ (_)
end Go.Proofs.Ytoccbgffekhcaaa

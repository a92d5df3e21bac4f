/-
The law FnExactMultiplicationOrder returns true for all arguments: the MultiplicationOrder of the program returns what the reference returns. No condition.
-/
import Derived.Test.YtjmenocghjggcaaAbsY
import Derived.Test.YtjmenocghjggcaaZMultiplicationOrder
namespace Go.Proofs.Ytjmenocghjggcaa
open Go Go.Abs
set_option linter.unusedVariables false
set_option linter.unusedSectionVars false
set_option linter.unusedSimpArgs false
set_option maxRecDepth 100000
open Go.ChangeShapes Go.WideShapes Go.ChangeAt Go.RowKit

theorem Try.own : ownKnob Try.prog.godebug = none := by kernel_rfl
theorem Try.laidOut : laidOutB Try.prog = true := by kernel_rfl
def zSq : Array Value := #[.int .i64 0] ++ Array.replicate 100 (.int .u8 0)
theorem lSq : Try.prog.keyLits 6 25 zSq.toList = some sqLits := by kernel_rfl

set_option maxRecDepth 100000 in
theorem multiplicationOrder_lifted (os : Os) (started : os.Started) (H : Type) (enc : TypeId × Value → H) :
    ReturnsInHanded {} Try.checked os 7 .any (Rows.fnExactMultiplicationOrderSpec.pre6 enc Try.prog Try.f7 Rows.fnExactMultiplicationOrderRow.domain false) (Rows.fnExactMultiplicationOrderSpec.post enc Try.prog Try.f7 false true false false) := by
  refine returnsInHanded_of_change (C := Try.checked) Try.own started (by kernel_rfl) Try.func7
    (ChangeSpec.witness6 (enc := enc) (C := Try.checked) false ⟨#[], #[.agg zSq], []⟩ 8 (by kernel_rfl) (by kernel_rfl) (by kernel_rfl) (by kernel_rfl)) ?_
  intro W base args ds gs before hval0 hW hcnd _
  have hval : ∀ (j : Nat) t v, Try.f7.params[j]? = some t → args[j]? = some v → Value.okWide Try.prog W .any base t v := hval0
  have hW' := hW
  obtain ⟨p, q, hA0, hV, rfl, hfz, hnd⟩ := hW
  have hA : DataW.TrodAll enc Try.prog W 0 (fun _ => true) true Try.f7.params.toList args.toList ds p := hA0
  rw [Try.params7] at hA hval
  obtain ⟨v0, d0, rfl, rfl, h0⟩ := trodAll_one hA
  obtain ⟨rfl, rfl⟩ := trodVars_none hV
  obtain ⟨l0, e0, rfl, a0, f0⟩ := flat_open (by kernel_rfl) (by kernel_rfl) lSq (by kernel_rfl) (hval 0 25 v0 rfl rfl) h0
  obtain ⟨n0, t0, ht0, _, r0⟩ := sq_of a0 f0
  rw [← e0] at r0
  clear hA0 hval0
  simp only [List.append_nil] at hW'
  refine (law_calls (lawMultiplicationOrder_ok n0 t0 ht0) (vals := [v0]) ⟨_, _, rfl, r0, rfl⟩ W).mono fun e W' ⟨he, hk⟩ => ?_
  subst he
  exact ⟨_, rfl, post_of_same (pa := []) (pv := []) hW' (fun _ _ _ => trodAll_mk1 (shut_bool Try.underlying4 true))
    (fun sp _ => trodAll_mk1 (WideElems.Trod_stays Try.laidOut (by kernel_rfl) (of_decide_eq_true (by kernel_rfl)) h0 (by simp) (by simp))) (fun _ _ => rfl) rfl
    (hk.but _) hk.frz (ok_one (by kernel_rfl) rfl (okWide_bool_mk Try.underlying4 true))⟩

theorem multiplicationOrder_holds : Rows.FnExactMultiplicationOrderSaid :=
  OpenClaim.holds_of_wide 7 Try.f7 rfl rfl rfl rfl rfl rfl rfl ⟨rfl, rfl, rfl, rfl, rfl⟩ rfl rfl rfl rfl rfl (by kernel_rfl) Try.func7 (by kernel_rfl)
    (of_decide_eq_true (by kernel_rfl)) (by unfold Func.isWrapper; first | (rw [if_pos (by decide +kernel)]; kernel_rfl) | (rw [if_neg (by decide +kernel)]; exact ⟨rfl, rfl⟩))
    (fun os started H enc _ => multiplicationOrder_lifted os started H enc)

end Go.Proofs.Ytjmenocghjggcaa

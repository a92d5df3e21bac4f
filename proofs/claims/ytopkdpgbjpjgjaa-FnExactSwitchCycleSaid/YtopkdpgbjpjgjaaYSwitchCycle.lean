/-
The law FnExactSwitchCycle returns true for all arguments: the SwitchCycle of the program returns what the reference returns. No condition.
-/
import Derived.Test.YtopkdpgbjpjgjaaAbsW
import Derived.Test.YtopkdpgbjpjgjaaZSwitchCycle
namespace Go.Proofs.Ytopkdpgbjpjgjaa
open Go Go.Abs
set_option linter.unusedVariables false
set_option linter.unusedSectionVars false
set_option linter.unusedSimpArgs false
set_option maxRecDepth 100000
open Go.ChangeShapes Go.WideShapes Go.ChangeAt Go.RowKit

theorem Try.own : ownKnob Try.prog.godebug = none := by kernel_rfl
theorem Try.laidOut : laidOutB Try.prog = true := by kernel_rfl
def zSq : Array Value := #[.int .i64 0] ++ Array.replicate 100 (.int .u8 0)
theorem lSq : Try.prog.keyLits 6 25 zSq.toList = some sqLits := by kernel_rfl

set_option maxRecDepth 100000 in
theorem switchCycle_lifted (os : Os) (started : os.Started) (H : Type) (enc : TypeId × Value → H) :
    ReturnsInHanded {} Try.checked os 11 .any (Rows.fnExactSwitchCycleSpec.pre6 enc Try.prog Try.f11 Rows.fnExactSwitchCycleRow.domain false) (Rows.fnExactSwitchCycleSpec.post enc Try.prog Try.f11 false true false false) := by
  refine returnsInHanded_of_change (C := Try.checked) Try.own started (by kernel_rfl) Try.func11
    (ChangeSpec.witness6 (enc := enc) (C := Try.checked) false ⟨#[], #[.agg zSq, .int .u8 0, .int .u8 0, .int .u8 0], []⟩ 8 (by kernel_rfl) (by kernel_rfl) (by kernel_rfl) (by kernel_rfl)) ?_
  intro W base args ds gs before hval0 hW hcnd _
  have hval : ∀ (j : Nat) t v, Try.f11.params[j]? = some t → args[j]? = some v → Value.okWide Try.prog W .any base t v := hval0
  have hW' := hW
  obtain ⟨p, q, hA0, hV, rfl, hfz, hnd⟩ := hW
  have hA : DataW.TrodAll enc Try.prog W 0 (fun _ => true) true Try.f11.params.toList args.toList ds p := hA0
  rw [Try.params11] at hA hval
  obtain ⟨v0, v1, v2, v3, d0, d1, d2, d3, pp0, pp1, pp2, pp3, rfl, rfl, rfl, h0, h1, h2, h3⟩ := trodAll_four hA
  obtain ⟨rfl, rfl⟩ := trodVars_none hV
  obtain ⟨l0, e0, rfl, a0, f0⟩ := flat_open (by kernel_rfl) (by kernel_rfl) lSq (by kernel_rfl) (hval 0 25 v0 rfl rfl) h0
  obtain ⟨n0, t0, ht0, _, r0⟩ := sq_of a0 f0
  rw [← e0] at r0
  obtain ⟨n1, e1, _, rfl, w1⟩ := open_int (by kernel_rfl) (hval 1 5 v1 rfl rfl) h1
  obtain ⟨b1, rfl, hb1⟩ := byte_of w1
  have r1 : RelV rho0 (.i .u8 b1) v1 := by rw [e1]; rfl
  obtain ⟨n2, e2, _, rfl, w2⟩ := open_int (by kernel_rfl) (hval 2 5 v2 rfl rfl) h2
  obtain ⟨b2, rfl, hb2⟩ := byte_of w2
  have r2 : RelV rho0 (.i .u8 b2) v2 := by rw [e2]; rfl
  obtain ⟨n3, e3, _, rfl, w3⟩ := open_int (by kernel_rfl) (hval 3 5 v3 rfl rfl) h3
  obtain ⟨b3, rfl, hb3⟩ := byte_of w3
  have r3 : RelV rho0 (.i .u8 b3) v3 := by rw [e3]; rfl
  clear hA0 hval0
  simp only [List.append_nil] at hW'
  refine (law_calls (lawSwitchCycle_ok n0 t0 b1 b2 b3 ht0 hb1 hb2 hb3) (vals := [v0, v1, v2, v3]) ⟨_, _, rfl, r0, ⟨_, _, rfl, r1, ⟨_, _, rfl, r2, ⟨_, _, rfl, r3, rfl⟩⟩⟩⟩ W).mono fun e W' ⟨he, hk⟩ => ?_
  subst he
  exact ⟨_, rfl, post_of_same (pa := []) (pv := []) hW' (fun _ _ _ => trodAll_mk1 (shut_bool Try.underlying4 true))
    (fun sp _ => trodAll_mk4 (WideElems.Trod_stays Try.laidOut (by kernel_rfl) (of_decide_eq_true (by kernel_rfl)) h0 (by simp) (by simp)) (WideElems.Trod_stays Try.laidOut (by kernel_rfl) (of_decide_eq_true (by kernel_rfl)) h1 (by simp) (by simp)) (WideElems.Trod_stays Try.laidOut (by kernel_rfl) (of_decide_eq_true (by kernel_rfl)) h2 (by simp) (by simp)) (WideElems.Trod_stays Try.laidOut (by kernel_rfl) (of_decide_eq_true (by kernel_rfl)) h3 (by simp) (by simp))) (fun _ _ => rfl) rfl
    (hk.but _) hk.frz (ok_one (by kernel_rfl) rfl (okWide_bool_mk Try.underlying4 true))⟩

theorem switchCycle_holds : Rows.FnExactSwitchCycleSaid :=
  OpenClaim.holds_of_wide 11 Try.f11 rfl rfl rfl rfl rfl rfl rfl ⟨rfl, rfl, rfl, rfl, rfl⟩ rfl rfl rfl rfl rfl (by kernel_rfl) Try.func11 (by kernel_rfl)
    (of_decide_eq_true (by kernel_rfl)) (by unfold Func.isWrapper; first | (rw [if_pos (by decide +kernel)]; kernel_rfl) | (rw [if_neg (by decide +kernel)]; exact ⟨rfl, rfl⟩))
    (fun os started H enc _ => switchCycle_lifted os started H enc)

end Go.Proofs.Ytopkdpgbjpjgjaa

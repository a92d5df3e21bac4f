/-
The law FnExactRightInverseOfSum returns true for all arguments: the RightInverseOfSum of the program returns what the reference returns. No condition.
-/
import Derived.Test.YtjmenocghjggcaaAbsY
import Derived.Test.YtjmenocghjggcaaZRightInverseOfSum
namespace Go.Proofs.Ytjmenocghjggcaa
open Go Go.Abs
set_option linter.unusedVariables false
set_option linter.unusedSectionVars false
set_option linter.unusedSimpArgs false
set_option maxRecDepth 100000
open Go.ChangeShapes Go.WideShapes Go.ChangeAt Go.RowKit

theorem Try.own : ownKnob Try.prog.godebug = none := by kernel_rfl
theorem Try.laidOut : laidOutB Try.prog = true := by kernel_rfl
def zSq : Array Value := #[.int .i64 0] ++ Array.replicate 100 (.int .u8 0)
theorem lSq : Try.prog.keyLits 6 25 zSq.toList = some sqLits := by kernel_rfl

set_option maxRecDepth 100000 in
theorem rightInverseOfSum_lifted (os : Os) (started : os.Started) (H : Type) (enc : TypeId × Value → H) :
    ReturnsInHanded {} Try.checked os 4 .any (Rows.fnExactRightInverseOfSumSpec.pre6 enc Try.prog Try.f4 Rows.fnExactRightInverseOfSumRow.domain false) (Rows.fnExactRightInverseOfSumSpec.post enc Try.prog Try.f4 false true false false) := by
  refine returnsInHanded_of_change (C := Try.checked) Try.own started (by kernel_rfl) Try.func4
    (ChangeSpec.witness6 (enc := enc) (C := Try.checked) false ⟨#[], #[.agg zSq, .int .i64 0, .slice none 0 0], []⟩ 8 (by kernel_rfl) (by kernel_rfl) (by kernel_rfl) (by kernel_rfl)) ?_
  intro W base args ds gs before hval0 hW hcnd _
  have hval : ∀ (j : Nat) t v, Try.f4.params[j]? = some t → args[j]? = some v → Value.okWide Try.prog W .any base t v := hval0
  have hW' := hW
  obtain ⟨p, q, hA0, hV, rfl, hfz, hnd⟩ := hW
  have hA : DataW.TrodAll enc Try.prog W 0 (fun _ => true) true Try.f4.params.toList args.toList ds p := hA0
  rw [Try.params4] at hA hval
  obtain ⟨v0, v1, v2, d0, d1, d2, pp0, pp1, pp2, rfl, rfl, rfl, h0, h1, h2⟩ := trodAll_three hA
  obtain ⟨rfl, rfl⟩ := trodVars_none hV
  obtain ⟨l0, e0, rfl, a0, f0⟩ := flat_open (by kernel_rfl) (by kernel_rfl) lSq (by kernel_rfl) (hval 0 25 v0 rfl rfl) h0
  obtain ⟨n0, t0, ht0, _, r0⟩ := sq_of a0 f0
  rw [← e0] at r0
  obtain ⟨k1, e1, _, rfl, w1⟩ := open_int (by kernel_rfl) (hval 1 2 v1 rfl rfl) h1
  have hk1 := i64_of w1
  obtain ⟨A, ms, l, xs, hs, _, hm⟩ := ints_open (e := 2) (k := .i64) (by kernel_rfl) (by kernel_rfl) (by kernel_rfl) (hval 2 33 v2 rfl rfl) h2 0
  have s2 : RelV (rhoL l) (.ref A) v2 := hs.relV fun p hp => by rw [hp]; rfl
  have s0 : RelV (rhoL l) (.agg (sqS n0 t0)) v0 := r0
  have s1 : RelV (rhoL l) (.i .i64 k1) v1 := (by rw [e1]; rfl)
  clear hA0 hval0
  simp only [List.append_nil, List.nil_append] at hW'
  have hlt := hW'.lt
  refine (law_calls_ro (lawRightInverseOfSum_ok n0 t0 k1 A ms xs ht0 hk1 (slArg_val hs) hm) hs.mem (vals := [v0, v1, v2]) ⟨_, _, rfl, s0, ⟨_, _, rfl, s1, ⟨_, _, rfl, s2, rfl⟩⟩⟩).mono fun e W' ⟨he, hk⟩ => ?_
  subst he
  exact ⟨_, rfl, post_of_same (pa := pp2) (pv := []) hW' (fun _ _ _ => trodAll_mk1 (shut_bool Try.underlying4 true))
    (fun sp hsp => show DataW.TrodAll enc Try.prog W' 0 sp true [25, 2, 33] [v0, v1, v2] [d0, d1, d2] pp2 from by
      have h := trodAll_mk3 (WideElems.Trod_stays Try.laidOut (by kernel_rfl) (of_decide_eq_true (by kernel_rfl)) h0 (by simp) (by simp)) (WideElems.Trod_stays Try.laidOut (by kernel_rfl) (of_decide_eq_true (by kernel_rfl)) h1 (by simp) (by simp)) (WideElems.Trod_stays Try.laidOut (by kernel_rfl) (of_decide_eq_true (by kernel_rfl)) h2 (fun p hp => hk.sameAt (hlt p hp)) hsp)
      simpa only [List.nil_append, List.append_nil] using h) (fun _ _ => rfl) (by simp)
    (hk.but _) hk.frz (ok_one (by kernel_rfl) rfl (okWide_bool_mk Try.underlying4 true))⟩

theorem rightInverseOfSum_holds : Rows.FnExactRightInverseOfSumSaid :=
  OpenClaim.holds_of_wide 4 Try.f4 rfl rfl rfl rfl rfl rfl rfl ⟨rfl, rfl, rfl, rfl, rfl⟩ rfl rfl rfl rfl rfl (by kernel_rfl) Try.func4 (by kernel_rfl)
    (of_decide_eq_true (by kernel_rfl)) (by unfold Func.isWrapper; first | (rw [if_pos (by decide +kernel)]; kernel_rfl) | (rw [if_neg (by decide +kernel)]; exact ⟨rfl, rfl⟩))
    (fun os started H enc _ => rightInverseOfSum_lifted os started H enc)

end Go.Proofs.Ytjmenocghjggcaa

/-
The law FnExactTripleLoop returns true for all arguments: the TripleLoop of the program returns what the reference returns. No condition.
-/
import Derived.Test.YtkmdhcdfbdjdaaaAbsY
import Derived.Test.YtkmdhcdfbdjdaaaZTripleLoop
namespace Go.Proofs.Ytkmdhcdfbdjdaaa
open Go Go.Abs
set_option linter.unusedVariables false
set_option linter.unusedSectionVars false
set_option linter.unusedSimpArgs false
set_option maxRecDepth 100000
open Go.ChangeShapes Go.WideShapes Go.ChangeAt Go.RowKit

theorem Try.own : ownKnob Try.prog.godebug = none := by kernel_rfl
theorem Try.laidOut : laidOutB Try.prog = true := by kernel_rfl

set_option maxRecDepth 100000 in
theorem tripleLoop_lifted (os : Os) (started : os.Started) (H : Type) (enc : TypeId × Value → H) :
    ReturnsInHanded {} Try.checked os 5 .any (Rows.fnExactTripleLoopSpec.pre6 enc Try.prog Try.f5 Rows.fnExactTripleLoopRow.domain false) (Rows.fnExactTripleLoopSpec.post enc Try.prog Try.f5 false true false false) := by
  refine returnsInHanded_of_change (C := Try.checked) Try.own started (by kernel_rfl) Try.func5
    (ChangeSpec.witness6 (enc := enc) (C := Try.checked) false ⟨#[], #[.int .i64 0, .slice none 0 0], []⟩ 8 (by kernel_rfl) (by kernel_rfl) (by kernel_rfl) (by kernel_rfl)) ?_
  intro W base args ds gs before hval0 hW hcnd _
  have hval : ∀ (j : Nat) t v, Try.f5.params[j]? = some t → args[j]? = some v → Value.okWide Try.prog W .any base t v := hval0
  have hW' := hW
  obtain ⟨p, q, hA0, hV, rfl, hfz, hnd⟩ := hW
  have hA : DataW.TrodAll enc Try.prog W 0 (fun _ => true) true Try.f5.params.toList args.toList ds p := hA0
  rw [Try.params5] at hA hval
  obtain ⟨v0, v1, d0, d1, pp0, pp1, rfl, rfl, rfl, h0, h1⟩ := trodAll_two hA
  obtain ⟨rfl, rfl⟩ := trodVars_none hV
  obtain ⟨k0, e0, _, rfl, w0⟩ := open_int (by kernel_rfl) (hval 0 2 v0 rfl rfl) h0
  have hk0 := i64_of w0
  obtain ⟨A, ms, lz, LL, hLA, hro, rM, hm0, hl0, _⟩ := lists_open (e := 57) (q := 2) (by kernel_rfl) (by kernel_rfl) (by kernel_rfl) (by kernel_rfl) (by kernel_rfl) (hval 1 36 v1 rfl rfl) h1
  have s0 : RelV (rhoO lz) (.i .i64 k0) v0 := (by rw [e0]; rfl)
  have s1 : RelV (rhoO lz) (.ref A) v1 := rM
  clear hA0 hval0
  simp only [List.append_nil, List.nil_append] at hW'
  have hlt := hW'.lt
  refine (law_calls_o (lawTripleLoop_ok k0 A ms LL hk0 (llArg_of hLA) hm0 hl0) hro (vals := [v0, v1]) ⟨_, _, rfl, s0, ⟨_, _, rfl, s1, rfl⟩⟩).mono fun e W' ⟨he, hk⟩ => ?_
  subst he
  exact ⟨_, rfl, post_of_same (pa := pp1) (pv := []) hW' (fun _ _ _ => trodAll_mk1 (shut_bool Try.underlying4 true))
    (fun sp hsp => show DataW.TrodAll enc Try.prog W' 0 sp true [2, 36] [v0, v1] [d0, d1] pp1 from by
      have h := trodAll_mk2 (WideElems.Trod_stays Try.laidOut (by kernel_rfl) (of_decide_eq_true (by kernel_rfl)) h0 (by simp) (by simp)) (WideElems.Trod_stays Try.laidOut (by kernel_rfl) (of_decide_eq_true (by kernel_rfl)) h1 (fun p hp => hk.sameAt (hlt p (by simp [hp]))) (fun p hp => hsp p (by simp [hp])))
      simpa only [List.nil_append, List.append_nil, List.append_assoc] using h) (fun _ _ => rfl) (by simp)
    (hk.but _) hk.frz (ok_one (by kernel_rfl) rfl (okWide_bool_mk Try.underlying4 true))⟩

theorem tripleLoop_holds : Rows.FnExactTripleLoopSaid :=
  OpenClaim.holds_of_wide 5 Try.f5 rfl rfl rfl rfl rfl rfl rfl ⟨rfl, rfl, rfl, rfl, rfl⟩ rfl rfl rfl rfl rfl (by kernel_rfl) Try.func5 (by kernel_rfl)
    (of_decide_eq_true (by kernel_rfl)) (by unfold Func.isWrapper; first | (rw [if_pos (by decide +kernel)]; kernel_rfl) | (rw [if_neg (by decide +kernel)]; exact ⟨rfl, rfl⟩))
    (fun os started H enc _ => tripleLoop_lifted os started H enc)

end Go.Proofs.Ytkmdhcdfbdjdaaa

/-
The law FnExactTermValue returns true for all arguments: the TermValue of the program returns what the reference returns. No condition.
-/
import Derived.Test.YtoccbgffekhcaaaAbsY
import Derived.Test.YtoccbgffekhcaaaZTermValue
namespace Go.Proofs.Ytoccbgffekhcaaa
open Go Go.Abs
set_option linter.unusedVariables false
set_option linter.unusedSectionVars false
set_option linter.unusedSimpArgs false
set_option maxRecDepth 100000
open Go.ChangeShapes Go.WideShapes Go.ChangeAt Go.RowKit

theorem Try.own : ownKnob Try.prog.godebug = none := by kernel_rfl
theorem Try.laidOut : laidOutB Try.prog = true := by kernel_rfl
def zSq : Array Value := #[.int .i64 0] ++ Array.replicate 100 (.int .u8 0)
theorem lSq : Try.prog.keyLits 6 25 zSq.toList = some sqLits := by kernel_rfl

set_option maxRecDepth 100000 in
theorem termValue_lifted (os : Os) (started : os.Started) (H : Type) (enc : TypeId × Value → H) :
    ReturnsInHanded {} Try.checked os 10 .any (Rows.fnExactTermValueSpec.pre6 enc Try.prog Try.f10 Rows.fnExactTermValueRow.domain false) (Rows.fnExactTermValueSpec.post enc Try.prog Try.f10 false true false false) := by
  refine returnsInHanded_of_change (C := Try.checked) Try.own started (by kernel_rfl) Try.func10
    (ChangeSpec.witness6 (enc := enc) (C := Try.checked) false ⟨#[], #[.agg zSq, .slice none 0 0, .int .u8 0, .int .u8 0, .int .u8 0], []⟩ 8 (by kernel_rfl) (by kernel_rfl) (by kernel_rfl) (by kernel_rfl)) ?_
  intro W base args ds gs before hval0 hW hcnd _
  have hval : ∀ (j : Nat) t v, Try.f10.params[j]? = some t → args[j]? = some v → Value.okWide Try.prog W .any base t v := hval0
  have hW' := hW
  obtain ⟨p, q, hA0, hV, rfl, hfz, hnd⟩ := hW
  have hA : DataW.TrodAll enc Try.prog W 0 (fun _ => true) true Try.f10.params.toList args.toList ds p := hA0
  rw [Try.params10] at hA hval
  obtain ⟨v0, v1, v2, v3, v4, d0, d1, d2, d3, d4, pp0, pp1, pp2, pp3, pp4, rfl, rfl, rfl, h0, h1, h2, h3, h4⟩ := trodAll_five hA
  obtain ⟨rfl, rfl⟩ := trodVars_none hV
  obtain ⟨l0, e0, rfl, a0, f0⟩ := flat_open (by kernel_rfl) (by kernel_rfl) lSq (by kernel_rfl) (hval 0 25 v0 rfl rfl) h0
  obtain ⟨n0, t0, ht0, _, r0⟩ := sq_of a0 f0
  rw [← e0] at r0
  obtain ⟨A, ms, l, xs, hs, _, hm⟩ := ints_open (e := 5) (k := .u8) (by kernel_rfl) (by kernel_rfl) (by kernel_rfl) (hval 1 50 v1 rfl rfl) h1 0
  obtain ⟨n2, e2, _, rfl, w2⟩ := open_int (by kernel_rfl) (hval 2 5 v2 rfl rfl) h2
  obtain ⟨b2, rfl, hb2⟩ := byte_of w2
  obtain ⟨n3, e3, _, rfl, w3⟩ := open_int (by kernel_rfl) (hval 3 5 v3 rfl rfl) h3
  obtain ⟨b3, rfl, hb3⟩ := byte_of w3
  obtain ⟨n4, e4, _, rfl, w4⟩ := open_int (by kernel_rfl) (hval 4 5 v4 rfl rfl) h4
  obtain ⟨b4, rfl, hb4⟩ := byte_of w4
  have s1 : RelV (rhoL l) (.ref A) v1 := hs.relV fun p hp => by rw [hp]; rfl
  have s0 : RelV (rhoL l) (.agg (sqS n0 t0)) v0 := r0
  have s2 : RelV (rhoL l) (.i .u8 b2) v2 := (by rw [e2]; rfl)
  have s3 : RelV (rhoL l) (.i .u8 b3) v3 := (by rw [e3]; rfl)
  have s4 : RelV (rhoL l) (.i .u8 b4) v4 := (by rw [e4]; rfl)
  clear hA0 hval0
  simp only [List.append_nil, List.nil_append] at hW'
  have hlt := hW'.lt
  refine (law_calls_ro (lawTermValue_ok n0 t0 A ms xs b2 b3 b4 ht0 (slArg_val hs) hm hb2 hb3 hb4) hs.mem (vals := [v0, v1, v2, v3, v4]) ⟨_, _, rfl, s0, ⟨_, _, rfl, s1, ⟨_, _, rfl, s2, ⟨_, _, rfl, s3, ⟨_, _, rfl, s4, rfl⟩⟩⟩⟩⟩).mono fun e W' ⟨he, hk⟩ => ?_
  subst he
  exact ⟨_, rfl, post_of_same (pa := pp1) (pv := []) hW' (fun _ _ _ => trodAll_mk1 (shut_bool Try.underlying4 true))
    (fun sp hsp => show DataW.TrodAll enc Try.prog W' 0 sp true [25, 50, 5, 5, 5] [v0, v1, v2, v3, v4] [d0, d1, d2, d3, d4] pp1 from by
      have h := trodAll_mk5 (WideElems.Trod_stays Try.laidOut (by kernel_rfl) (of_decide_eq_true (by kernel_rfl)) h0 (by simp) (by simp)) (WideElems.Trod_stays Try.laidOut (by kernel_rfl) (of_decide_eq_true (by kernel_rfl)) h1 (fun p hp => hk.sameAt (hlt p hp)) hsp) (WideElems.Trod_stays Try.laidOut (by kernel_rfl) (of_decide_eq_true (by kernel_rfl)) h2 (by simp) (by simp)) (WideElems.Trod_stays Try.laidOut (by kernel_rfl) (of_decide_eq_true (by kernel_rfl)) h3 (by simp) (by simp)) (WideElems.Trod_stays Try.laidOut (by kernel_rfl) (of_decide_eq_true (by kernel_rfl)) h4 (by simp) (by simp))
      simpa only [List.nil_append, List.append_nil] using h) (fun _ _ => rfl) (by simp)
    (hk.but _) hk.frz (ok_one (by kernel_rfl) rfl (okWide_bool_mk Try.underlying4 true))⟩

theorem termValue_holds : Rows.FnExactTermValueSaid :=
  OpenClaim.holds_of_wide 10 Try.f10 rfl rfl rfl rfl rfl rfl rfl ⟨rfl, rfl, rfl, rfl, rfl⟩ rfl rfl rfl rfl rfl (by kernel_rfl) Try.func10 (by kernel_rfl)
    (of_decide_eq_true (by kernel_rfl)) (by unfold Func.isWrapper; first | (rw [if_pos (by decide +kernel)]; kernel_rfl) | (rw [if_neg (by decide +kernel)]; exact ⟨rfl, rfl⟩))
    (fun os started H enc _ => termValue_lifted os started H enc)

end Go.Proofs.Ytoccbgffekhcaaa

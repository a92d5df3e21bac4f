/-
The law FnExactAssociatorOfSums returns true for all arguments: the AssociatorOfSums of the program returns what the reference returns. No condition.
-/
import Derived.Test.YtcaadjjgggjefaaAbsY
import Derived.Test.YtcaadjjgggjefaaZAssociatorOfSums
namespace Go.Proofs.Ytcaadjjgggjefaa
open Go Go.Abs
set_option linter.unusedVariables false
set_option linter.unusedSectionVars false
set_option linter.unusedSimpArgs false
set_option maxRecDepth 100000
open Go.ChangeShapes Go.WideShapes Go.ChangeAt Go.RowKit

theorem trodAll_five {H : Type} {enc : TypeId × Value → H} {P : Program} {w : World} {base : Nat} {spare : Nat → Bool} {held : Bool} {t0 t1 t2 t3 t4 : TypeId} {args : Array Value} {ds : List (DataW H)} {ps : List MemPlace} (h : DataW.TrodAll enc P w base spare held [t0, t1, t2, t3, t4] args.toList ds ps) :
    ∃ v0 v1 v2 v3 v4 d0 d1 d2 d3 d4 p0 p1 p2 p3 p4, args = #[v0, v1, v2, v3, v4] ∧ ds = [d0, d1, d2, d3, d4] ∧ ps = p0 ++ p1 ++ p2 ++ p3 ++ p4 ∧ DataW.Trod enc P w base spare held t0 v0 d0 p0 ∧ DataW.Trod enc P w base spare held t1 v1 d1 p1 ∧ DataW.Trod enc P w base spare held t2 v2 d2 p2 ∧ DataW.Trod enc P w base spare held t3 v3 d3 p3 ∧ DataW.Trod enc P w base spare held t4 v4 d4 p4 := by
  obtain ⟨v0, r0, d0, s0, p0, q0, hargs, rfl, rfl, h0, g0⟩ := trodAll_cons h
  obtain ⟨v1, r1, d1, s1, p1, q1, rfl, rfl, rfl, h1, g1⟩ := trodAll_cons g0
  obtain ⟨v2, r2, d2, s2, p2, q2, rfl, rfl, rfl, h2, g2⟩ := trodAll_cons g1
  obtain ⟨v3, r3, d3, s3, p3, q3, rfl, rfl, rfl, h3, g3⟩ := trodAll_cons g2
  obtain ⟨v4, r4, d4, s4, p4, q4, rfl, rfl, rfl, h4, g4⟩ := trodAll_cons g3
  obtain ⟨rfl, rfl, rfl⟩ := trodAll_nil g4
  exact ⟨v0, v1, v2, v3, v4, d0, d1, d2, d3, d4, p0, p1, p2, p3, p4, by cases args; simp_all, rfl, by simp, h0, h1, h2, h3, h4⟩
theorem trodAll_mk5 {H : Type} {enc : TypeId × Value → H} {P : Program} {w : World} {base : Nat} {spare : Nat → Bool} {held : Bool} {t0 t1 t2 t3 t4 : TypeId} {v0 v1 v2 v3 v4 : Value} {d0 d1 d2 d3 d4 : DataW H} {p0 p1 p2 p3 p4 : List MemPlace} (h0 : DataW.Trod enc P w base spare held t0 v0 d0 p0)
    (h1 : DataW.Trod enc P w base spare held t1 v1 d1 p1) (h2 : DataW.Trod enc P w base spare held t2 v2 d2 p2) (h3 : DataW.Trod enc P w base spare held t3 v3 d3 p3) (h4 : DataW.Trod enc P w base spare held t4 v4 d4 p4) :
    DataW.TrodAll enc P w base spare held [t0, t1, t2, t3, t4] [v0, v1, v2, v3, v4] [d0, d1, d2, d3, d4] (p0 ++ p1 ++ p2 ++ p3 ++ p4) := by
  rw [List.append_assoc, List.append_assoc, List.append_assoc]
  exact ⟨p0, _, h0, ⟨p1, _, h1, ⟨p2, _, h2, ⟨p3, _, h3, trodAll_mk1 h4, rfl⟩, rfl⟩, rfl⟩, rfl⟩
theorem Try.own : ownKnob Try.prog.godebug = none := by kernel_rfl
theorem Try.laidOut : laidOutB Try.prog = true := by kernel_rfl
def zSq : Array Value := #[.int .i64 0] ++ Array.replicate 100 (.int .u8 0)
theorem lSq : Try.prog.keyLits 6 25 zSq.toList = some sqLits := by kernel_rfl

set_option maxRecDepth 100000 in
theorem associatorOfSums_lifted (os : Os) (started : os.Started) (H : Type) (enc : TypeId × Value → H) :
    ReturnsInHanded {} Try.checked os 9 .any (Rows.fnExactAssociatorOfSumsSpec.pre6 enc Try.prog Try.f9 Rows.fnExactAssociatorOfSumsRow.domain false) (Rows.fnExactAssociatorOfSumsSpec.post enc Try.prog Try.f9 false true false false) := by
  refine returnsInHanded_of_change (C := Try.checked) Try.own started (by kernel_rfl) Try.func9
    (ChangeSpec.witness6 (enc := enc) (C := Try.checked) false ⟨#[], #[.agg zSq, .int .i64 0, .slice none 0 0, .slice none 0 0, .slice none 0 0], []⟩ 8 (by kernel_rfl) (by kernel_rfl) (by kernel_rfl) (by kernel_rfl)) ?_
  intro W base args ds gs before hval0 hW hcnd _
  have hval : ∀ (j : Nat) t v, Try.f9.params[j]? = some t → args[j]? = some v → Value.okWide Try.prog W .any base t v := hval0
  have hW' := hW
  obtain ⟨p, q, hA0, hV, rfl, hfz, hnd⟩ := hW
  have hA : DataW.TrodAll enc Try.prog W 0 (fun _ => true) true Try.f9.params.toList args.toList ds p := hA0
  rw [Try.params9] at hA hval
  obtain ⟨v0, v1, v2, v3, v4, d0, d1, d2, d3, d4, pp0, pp1, pp2, pp3, pp4, rfl, rfl, rfl, h0, h1, h2, h3, h4⟩ := trodAll_five hA
  obtain ⟨rfl, rfl⟩ := trodVars_none hV
  obtain ⟨l0, e0, rfl, a0, f0⟩ := flat_open (by kernel_rfl) (by kernel_rfl) lSq (by kernel_rfl) (hval 0 25 v0 rfl rfl) h0
  obtain ⟨n0, t0, ht0, _, r0⟩ := sq_of a0 f0
  rw [← e0] at r0
  obtain ⟨k1, e1, _, rfl, w1⟩ := open_int (by kernel_rfl) (hval 1 2 v1 rfl rfl) h1
  obtain ⟨A0, ms0, l10, x0, g0, _, hm0⟩ := ints_open (e := 2) (k := .i64) (by kernel_rfl) (by kernel_rfl) (by kernel_rfl) (hval 2 33 v2 rfl rfl) h2 0
  obtain ⟨B0, o0, q0, b0, r10⟩ := g0.one
  obtain ⟨A1, ms1, l11, x1, g1, _, hm1⟩ := ints_open (e := 2) (k := .i64) (by kernel_rfl) (by kernel_rfl) (by kernel_rfl) (hval 3 33 v3 rfl rfl) h3 1
  obtain ⟨B1, o1, q1, b1, r11⟩ := g1.one
  obtain ⟨A2, ms2, l12, x2, g2, _, hm2⟩ := ints_open (e := 2) (k := .i64) (by kernel_rfl) (by kernel_rfl) (by kernel_rfl) (hval 4 33 v4 rfl rfl) h4 2
  obtain ⟨B2, o2, q2, b2, r12⟩ := g2.one
  have hro : RoO W (rhoO [o0, o1, o2]) [B0, B1, B2] [o0, o1, o2] := ⟨b0 _, ⟨b1 _, ⟨b2 _, trivial⟩⟩⟩
  have s0 : RelV (rhoO [o0, o1, o2]) (.agg (sqS n0 t0)) v0 := r0
  have s1 : RelV (rhoO [o0, o1, o2]) (.i .i64 k1) v1 := (by rw [e1]; rfl)
  have s2 : RelV (rhoO [o0, o1, o2]) (.ref A0) v2 := r10 _ rfl
  have s3 : RelV (rhoO [o0, o1, o2]) (.ref A1) v3 := r11 _ rfl
  have s4 : RelV (rhoO [o0, o1, o2]) (.ref A2) v4 := r12 _ rfl
  clear hA0 hval0
  simp only [List.append_nil, List.nil_append] at hW'
  have hlt := hW'.lt
  refine (law_calls_o (lawAssociatorOfSums_ok n0 t0 k1 A0 A1 A2 B0 B1 B2 x0 x1 x2 ht0 q0 hm0 q1 hm1 q2 hm2) hro (vals := [v0, v1, v2, v3, v4]) ⟨_, _, rfl, s0, ⟨_, _, rfl, s1, ⟨_, _, rfl, s2, ⟨_, _, rfl, s3, ⟨_, _, rfl, s4, rfl⟩⟩⟩⟩⟩).mono fun e W' ⟨he, hk⟩ => ?_
  subst he
  exact ⟨_, rfl, post_of_same (pa := pp2 ++ pp3 ++ pp4) (pv := []) hW' (fun _ _ _ => trodAll_mk1 (shut_bool Try.underlying4 true))
    (fun sp hsp => show DataW.TrodAll enc Try.prog W' 0 sp true [25, 2, 33, 33, 33] [v0, v1, v2, v3, v4] [d0, d1, d2, d3, d4] (pp2 ++ pp3 ++ pp4) from by
      have h := trodAll_mk5 (WideElems.Trod_stays Try.laidOut (by kernel_rfl) (of_decide_eq_true (by kernel_rfl)) h0 (by simp) (by simp)) (WideElems.Trod_stays Try.laidOut (by kernel_rfl) (of_decide_eq_true (by kernel_rfl)) h1 (by simp) (by simp)) (WideElems.Trod_stays Try.laidOut (by kernel_rfl) (of_decide_eq_true (by kernel_rfl)) h2 (fun p hp => hk.sameAt (hlt p (by simp [hp]))) (fun p hp => hsp p (by simp [hp]))) (WideElems.Trod_stays Try.laidOut (by kernel_rfl) (of_decide_eq_true (by kernel_rfl)) h3 (fun p hp => hk.sameAt (hlt p (by simp [hp]))) (fun p hp => hsp p (by simp [hp]))) (WideElems.Trod_stays Try.laidOut (by kernel_rfl) (of_decide_eq_true (by kernel_rfl)) h4 (fun p hp => hk.sameAt (hlt p (by simp [hp]))) (fun p hp => hsp p (by simp [hp])))
      simpa only [List.nil_append, List.append_nil, List.append_assoc] using h) (fun _ _ => rfl) (by simp)
    (hk.but _) hk.frz (ok_one (by kernel_rfl) rfl (okWide_bool_mk Try.underlying4 true))⟩

theorem associatorOfSums_holds : Rows.FnExactAssociatorOfSumsSaid :=
  OpenClaim.holds_of_wide 9 Try.f9 rfl rfl rfl rfl rfl rfl rfl ⟨rfl, rfl, rfl, rfl, rfl⟩ rfl rfl rfl rfl rfl (by kernel_rfl) Try.func9 (by kernel_rfl)
    (of_decide_eq_true (by kernel_rfl)) (by unfold Func.isWrapper; first | (rw [if_pos (by decide +kernel)]; kernel_rfl) | (rw [if_neg (by decide +kernel)]; exact ⟨rfl, rfl⟩))
    (fun os started H enc _ => associatorOfSums_lifted os started H enc)

end Go.Proofs.Ytcaadjjgggjefaa

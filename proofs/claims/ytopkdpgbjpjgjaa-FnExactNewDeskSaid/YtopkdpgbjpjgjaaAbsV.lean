/-
From a statement's row to the abstract walk: the arguments are opened, the call's contract is met, the row is shut.
-/
import Derived.Test.YtopkdpgbjpjgjaaAbsU
import Derived.ProofKit
namespace Go.Abs
open Go
set_option linter.unusedVariables false
set_option linter.unusedSectionVars false
set_option linter.unusedSimpArgs false
set_option linter.defProp false

def rho0 : Rho := fun _ _ => none

theorem law_calls {P : Program} {f : FuncId} {vs : List AV} {vals : List Value} (h : ACalls P f vs [] (fun v ms ns => v = .b true ∧ ms = [] ∧ ns = [])) (hv : RelVs rho0 vs vals) (W : World) :
    Calls P f vals.toArray W fun e W' => e = .returned (.bool true) ∧ Kept (fun _ => False) W W' := by
  have hm : MemRel rho0 (fun _ => False) (getArgs []) W := by
    refine ⟨fun a k rw gs hg => ?_, fun a k a' k' gs gs' p p' hg => ?_, fun a k p hp => (by cases hp), fun a k rw gs _ hg => ?_⟩
    all_goals (unfold getArgs at hg; split at hg <;> simp at hg)
  refine (h.2 rho0 (fun _ => False) W vals (fun _ _ _ => rfl) (fun b hb => hb.elim) hm hv).mono ?_
  rintro e w' ⟨r, xs, ns, val, ρ', rfl, ⟨rfl, rfl, rfl⟩, _, hr, _, _, _, hk⟩
  simp only [RelV] at hr
  exact ⟨by rw [hr], hk⟩

theorem Kept.but {w w' : World} (h : Kept (fun _ => False) w w') (may : MemPlace → Prop) : w.keptBut w' may := by
  refine ⟨h.os, h.out, fun i hi => ?_⟩
  rw [h.same i hi (fun x => x)]
  cases w.heap[i]? with
  | none => rfl
  | some o => cases o <;> simp

theorem flat_open {H : Type} {enc : TypeId × Value → H} {P : Program} {W : World} {base : Nat} {sp : Nat → Bool} {hd : Bool} {t : TypeId} {v : Value} {d : DataW H} {ps : List MemPlace} {l0 : List Lit} {z0 : List Value}
    (hk : P.keyTypeAt 6 t = true) (ht : P.tiled 6 t = true) (hz : P.keyLits 6 t z0 = some l0) (hg : isAggD (P.underlying t) = true)
    (hv : Value.okWide P W .any base t v) (h : DataW.Trod enc P W 0 sp hd t v d ps) :
    ∃ l : List Lit, v = .agg (l.map Lit.toCell).toArray ∧ ps = [] ∧ Alike l l0 ∧ ∀ c ∈ l, c.keyWf := by
  have hcs : ∃ cs : Array Value, v = .agg cs := by
    unfold Value.okWide at hv
    revert hg hv
    cases P.underlying t with
    | none => simp [isAggD]
    | some d => cases d <;> simp [isAggD] <;> intro a b _ _ <;> exact ⟨_, b⟩
  obtain ⟨cs, rfl⟩ := hcs
  obtain ⟨fuel, hf⟩ := h
  obtain ⟨k1, k2⟩ := keyLits_of_trod 6 t hk fuel _ _ hf
  have k3 := cells_of_lits 6 t ht 6 _ _ k1
  refine ⟨d.flat, ?_, k2, keyLits_alike k1 hz, keyLits_wf k1⟩
  simp only [Value.cells] at k3
  rw [← k3]

theorem alike_ints {q : IntKind} : ∀ {k : Nat} {l r0 : List Lit}, Alike l (List.replicate k (.int q 0) ++ r0) → ∃ (xs : List Int) (r : List Lit), xs.length = k ∧ l = xs.map (.int q) ++ r ∧ Alike r r0
  | 0, l, r0, h => ⟨[], l, rfl, rfl, by simpa using h⟩
  | k + 1, [], r0, h => by simp [List.replicate_succ, Alike] at h
  | k + 1, a :: l, r0, h => by
    rw [List.replicate_succ, List.cons_append] at h
    obtain ⟨h1, h2⟩ := h
    obtain ⟨xs, r, e1, rfl, h3⟩ := alike_ints h2
    cases a with
    | int k n =>
      simp only [Lit.sameKind] at h1
      subst h1
      exact ⟨n :: xs, r, by simp [e1], rfl, h3⟩
    | _ => simp [Lit.sameKind] at h1
theorem alike_nil {l : List Lit} (h : Alike l []) : l = [] := by
  cases l with
  | nil => rfl
  | cons a r => exact h.elim

theorem bytes_of_wf {k : Nat} {xs : List Int} (hl : xs.length = k) (h : ∀ x ∈ xs, (Lit.int .u8 x).wf = true) : Bytes k xs := by
  refine ⟨hl, fun i => ?_⟩
  by_cases hi : i < xs.length
  · have := h xs[i] (List.getElem_mem hi)
    simp [Lit.wf, IntKind.min, IntKind.max, IntKind.signed, IntKind.bits] at this
    simp [hi]; omega
  · simp [hi]

theorem toCell_ints {q : IntKind} {xs : List Int} : (xs.map (Lit.int q)).map Lit.toCell = xs.map (Value.int q) := by
  simp [Lit.toCell, Function.comp_def]

def sqLits : List Lit := List.replicate 1 (.int .i64 0) ++ (List.replicate 100 (.int .u8 0) ++ [])
def trLits : List Lit := List.replicate 10 (.int .u8 0) ++ (List.replicate 10 (.int .u8 0) ++ (List.replicate 10 (.int .u8 0) ++ []))
def plLits : List Lit := List.replicate 10 (.int .u8 0) ++ []

theorem sq_of {l : List Lit} (h : Alike l sqLits) (hw : ∀ c ∈ l, c.keyWf) : ∃ n t, Bytes 100 t ∧ (Lit.int .i64 n).wf = true ∧ RelV rho0 (.agg (sqS n t)) (.agg (l.map Lit.toCell).toArray) := by
  obtain ⟨ns, r, e1, rfl, h1⟩ := alike_ints h
  obtain ⟨t, r, e2, rfl, h2⟩ := alike_ints h1
  have := alike_nil h2
  subst this
  match ns, e1 with
  | [n], _ =>
    refine ⟨n, t, bytes_of_wf e2 fun x hx => hw (.int .u8 x) (by simp [hx]), hw (.int .i64 n) (by simp), ?_⟩
    simp only [RelV]
    refine ⟨_, rfl, ?_⟩
    refine ⟨rfl, [.int .i64 n], t.map (.int .u8), by simp [Lit.toCell, Function.comp_def], ⟨rfl, rfl⟩, rfl, t.map (.int .u8), [], by simp, ⟨e2, rfl⟩, rfl⟩
theorem tr_of {l : List Lit} (h : Alike l trLits) (hw : ∀ c ∈ l, c.keyWf) : ∃ p q r, Bytes 10 p ∧ Bytes 10 q ∧ Bytes 10 r ∧ RelV rho0 (.agg (trS p q r)) (.agg (l.map Lit.toCell).toArray) := by
  obtain ⟨p, r, e1, rfl, h1⟩ := alike_ints h
  obtain ⟨q, r, e2, rfl, h2⟩ := alike_ints h1
  obtain ⟨s, r, e3, rfl, h3⟩ := alike_ints h2
  have := alike_nil h3
  subst this
  refine ⟨p, q, s, bytes_of_wf e1 fun x hx => hw (.int .u8 x) (by simp [hx]), bytes_of_wf e2 fun x hx => hw (.int .u8 x) (by simp [hx]), bytes_of_wf e3 fun x hx => hw (.int .u8 x) (by simp [hx]), ?_⟩
  simp only [RelV]
  refine ⟨_, rfl, ?_⟩
  refine ⟨rfl, p.map (.int .u8), q.map (.int .u8) ++ s.map (.int .u8), by simp [Lit.toCell, Function.comp_def], ⟨e1, rfl⟩, rfl, q.map (.int .u8), s.map (.int .u8), rfl, ⟨e2, rfl⟩, rfl, s.map (.int .u8), [], by simp, ⟨e3, rfl⟩, rfl⟩
theorem pl_of {l : List Lit} (h : Alike l plLits) (hw : ∀ c ∈ l, c.keyWf) : ∃ p, Bytes 10 p ∧ RelV rho0 (.agg (plS p)) (.agg (l.map Lit.toCell).toArray) := by
  obtain ⟨p, r, e1, rfl, h1⟩ := alike_ints h
  have := alike_nil h1
  subst this
  refine ⟨p, bytes_of_wf e1 fun x hx => hw (.int .u8 x) (by simp [hx]), ?_⟩
  simp only [RelV]
  exact ⟨_, rfl, rfl, p.map (.int .u8), [], by simp [Lit.toCell, Function.comp_def], ⟨e1, rfl⟩, rfl⟩
end Go.Abs

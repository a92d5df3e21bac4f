/-
All operations under one law; the outcome of an operation is one, and hangs on its operands and on the memory that it reads alone.
-/
import Derived.Test.YtopkdpgbjpjgjaaAbsH
namespace Go.Abs
open Go
set_option linter.unusedVariables false
set_option linter.unusedSectionVars false
set_option linter.unusedSimpArgs false
set_option linter.defProp false

section
variable {P : Program} {ρ : Rho} {own : Nat → Prop} {env : Env} {m : Mem} {a : Act} {w : World}

theorem capsOf_sound (c : RelE ρ env a) : ∀ {xs : List Operand} {l : List (Nat × Nat × Nat × Nat)}, capsOf env xs = some l → RelCaps ρ l (xs.map a.eval)
  | [], l, h => by simp [capsOf] at h; subst h; rfl
  | x :: r, l, h => by
    simp only [capsOf] at h
    split at h
    · rename_i a' k st off l' e1 e2
      simp at h
      subst h
      have hx := aev_sound c x
      rw [e1] at hx
      simp only [RelV, RelAt] at hx
      obtain ⟨p, hp, hv⟩ := hx
      exact ⟨p, r.map a.eval, hp, by simp [hv], capsOf_sound c e2⟩
    · simp at h

theorem run_call {o : Oper} {cl : Call} {f : Operand} {fid : FuncId} {cs : Array Value} (ho : o.op = .call cl) (hf : cl.callee = .value f) (hv : a.eval f = .func (.func fid) #[] cs) (hok : Okf P fid) :
    (execOp a.eval o).run P w = .ok (.enter fid (cl.args.map a.eval ++ cs)) w := by
  obtain ⟨fn, body, h1, h2, h3⟩ := hok
  have h4 : (fn.name == "runtime.NumGoroutine") = false := h3
  simp only [execOp, ho, resolve, hf, hv, Deferred.ofValue, Sem.run_bind, Sem.run_pure, Result.andThen_ok, invoke, callFunc, Array.empty_append]
  simp only [program, Sem.run, Result.andThen_ok, h1, h4, Bool.false_eq_true, if_false, h2, Option.isNone_some]
  rfl

theorem aop_sound {o : Oper} {K : AV → Ups → List Id → Prop} (c : Ctx ρ own env m a w) (hk : aop P o.op env m K) : OpK P ρ own m a w o K := by
  cases ho : o.op with
  | move x => rw [ho] at hk; exact (OpOk.pure (val := a.eval x) c (by simp [execOp, ho]) (aev_sound c.env x)).toK hk
  | assign x => rw [ho] at hk; exact (OpOk.pure (val := a.eval x) c (by simp [execOp, ho]) (aev_sound c.env x)).toK hk
  | pick c' x y =>
    rw [ho] at hk
    simp only [aop] at hk
    split at hk
    · rename_i g e; exact (ok_pick c ho e).toK hk
    · exact hk.elim
  | alloc t =>
    rw [ho] at hk
    simp only [aop] at hk
    split at hk
    · rename_i gs e; exact (ok_alloc c ho e).toK hk
    · exact hk.elim
  | box t x =>
    rw [ho] at hk
    simp only [aop] at hk
    split at hk
    · rename_i gs e; exact (ok_box c ho e).toK hk
    · exact hk.elim
  | build t parts =>
    rw [ho] at hk
    simp only [aop] at hk
    obtain ⟨gs, h1, h2⟩ := ok_build c ho hk
    exact h2.toK h1
  | buildSlice t len parts =>
    rw [ho] at hk
    simp only [aop] at hk
    obtain ⟨gs, esz, h1, h2⟩ := ok_buildSlice c ho hk
    exact h2.toK h1
  | load t x =>
    rw [ho] at hk
    simp only [aop] at hk
    obtain ⟨v, rd, h1, h2, _⟩ := ok_load c ho hk
    exact h2.toK h1
  | store t x y =>
    rw [ho] at hk
    simp only [aop] at hk
    obtain ⟨ups, rd, h1, h2⟩ := ok_store c ho hk
    exact h2.toK h1
  | nilCheck x =>
    rw [ho] at hk
    simp only [aop] at hk
    have hx := aev_sound c.env x
    split at hk
    · rename_i a' k st off e
      rw [e] at hx
      simp only [RelV, RelAt] at hx
      obtain ⟨p, hp, hv⟩ := hx
      exact (OpOk.pure (val := a.eval x) c (by simp [execOp, ho, hv]) (by simp only [RelV, RelAt]; exact ⟨p, hp, hv⟩)).toK hk
    · rename_i f cs e
      rw [e] at hx
      simp only [RelV, RelAt] at hx
      obtain ⟨l, hv, hr⟩ := hx
      exact (OpOk.pure (val := a.eval x) c (by simp [execOp, ho, hv]) (by simp only [RelV, RelAt]; exact ⟨l, hv, hr⟩)).toK hk
    · exact hk.elim
  | binOp op t x y t' =>
    rw [ho] at hk
    simp only [aop] at hk
    obtain ⟨v, h1, h2⟩ := ok_binOp c ho hk
    exact h2.toK h1
  | unOp op t x =>
    rw [ho] at hk
    simp only [aop] at hk
    obtain ⟨v, h1, h2⟩ := ok_unOp c ho hk
    exact h2.toK h1
  | convert s d x =>
    rw [ho] at hk
    simp only [aop] at hk
    obtain ⟨v, h1, h2⟩ := ok_convert c ho hk
    exact h2.toK h1
  | makeFunc fn first caps =>
    rw [ho] at hk
    cases fn with
    | func f =>
      simp only [aop] at hk
      split at hk
      · rename_i hf
        split at hk
        · rename_i l e
          have h2 := capsOf_sound c.env e
          have hf' : first = #[] := by simpa using hf
          exact (OpOk.pure (val := .func (.func f) #[] (caps.map a.eval)) c (by simp [execOp, ho, hf', Instr.makeFunc])
            (by simp only [RelV, RelAt]; exact ⟨caps.toList.map a.eval, by congr 1; apply Array.toList_inj.1; simp, h2⟩)).toK hk
        · exact hk.elim
      · exact hk.elim
    | _ => simp only [aop] at hk
  | makeSlice t x y =>
    rw [ho] at hk
    simp only [aop] at hk
    obtain ⟨v, ups, rd, h1, h2⟩ := ok_makeSlice c ho hk
    exact h2.toK h1
  | slice t x lo hi mx =>
    rw [ho] at hk
    cases mx with
    | none =>
      simp only [aop] at hk
      obtain ⟨v, h1, h2⟩ := ok_slice c ho hk
      exact h2.toK h1
    | some _ => simp only [aop] at hk
  | fieldAddr t x f =>
    rw [ho] at hk
    simp only [aop] at hk
    obtain ⟨v, h1, h2⟩ := ok_fieldAddr c ho hk
    exact h2.toK h1
  | indexAddr t x i =>
    rw [ho] at hk
    simp only [aop] at hk
    obtain ⟨v, h1, h2⟩ := ok_indexAddr c ho hk
    exact h2.toK h1
  | index t x i =>
    rw [ho] at hk
    simp only [aop] at hk
    obtain ⟨v, h1, h2⟩ := ok_index c ho hk
    exact h2.toK h1
  | extract x j =>
    rw [ho] at hk
    simp only [aop] at hk
    split at hk
    · rename_i vs e
      split at hk
      · rename_i v e2; exact (ok_extract c ho e e2).toK hk
      · exact hk.elim
    · exact hk.elim
  | call cl =>
    rw [ho] at hk
    simp only [aop] at hk
    split at hk
    · rename_i f hf
      unfold acallee at hk
      split at hk
      · rename_i fid caps e
        have hx := aev_sound c.env f
        rw [e] at hx
        simp only [RelV, RelAt] at hx
        obtain ⟨cs, hv, hr⟩ := hx
        refine ok_calls (vals := cl.args.toList.map a.eval ++ cs) c ((RelVs.args c.env _).append hr.vals) (fun hok => ?_) hk
        rw [run_call ho hf hv hok]
        congr 2
        apply Array.toList_inj.1
        simp
      · exact hk.elim
    · rename_i b hb
      unfold abuiltin at hk
      obtain ⟨callee, args, ats⟩ := cl
      simp only at hb hk
      subst hb
      split at hk
      · rename_i t x e1 e2
        have e1' : ats = #[t] := by apply Array.toList_inj.1; simpa using e1
        subst e1'
        obtain ⟨y, l, hy⟩ : ∃ y l, args.toList = y :: l := by
          cases hl : args.toList with
          | nil => simp [hl] at e2
          | cons y l => exact ⟨y, l, rfl⟩
        have hl0 : l = [] := by rw [hy] at e2; simpa using (List.cons.inj e2).2
        subst hl0
        have hargs : args = #[y] := by apply Array.toList_inj.1; simpa using hy
        subst hargs
        have : aev env y = x := by simpa using e2
        subst this
        obtain ⟨v, h1, h2⟩ := ok_len (args := #[y]) c ho hk
        exact h2.toK h1
      · rename_i t t' s x e1 e2
        obtain ⟨rfl, hk⟩ := hk
        have e1' : ats = #[t, t] := by apply Array.toList_inj.1; simpa using e1
        subst e1'
        obtain ⟨y, z, hy⟩ : ∃ y z, args.toList = [y, z] := by
          cases hl : args.toList with
          | nil => simp [hl] at e2
          | cons y l =>
            cases l with
            | nil => simp [hl] at e2
            | cons z l =>
              cases l with
              | nil => exact ⟨y, z, rfl⟩
              | cons u l => simp [hl] at e2
        have hargs : args = #[y, z] := by apply Array.toList_inj.1; simpa using hy
        subst hargs
        simp at e2
        obtain ⟨rfl, rfl⟩ := e2
        obtain ⟨v, ups, rd, h1, h2⟩ := ok_append c ho hk
        exact h2.toK h1
      · exact hk.elim
    · exact hk.elim
  | _ => rw [ho] at hk; simp only [aop] at hk

end
end Go.Abs

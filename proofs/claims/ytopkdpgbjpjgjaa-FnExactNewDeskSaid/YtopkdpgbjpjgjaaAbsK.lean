/-
Locality: an outcome hangs on the operands and on the memory that is read or written alone.
-/
import Derived.Test.YtopkdpgbjpjgjaaAbsJ
namespace Go.Abs
open Go
set_option linter.unusedVariables false
set_option linter.unusedSectionVars false
set_option linter.unusedSimpArgs false
set_option linter.defProp false

def idsU (ups : Ups) : List Id := ups.map (·.1)

section
variable {P : Program} {env env' : Env} {m m' : Mem}

theorem aev_congr {op : Op} (h : ∀ t, Operand.tmp t ∈ op.operands → lk env' t = lk env t) {x : Operand} (hx : x ∈ op.operands) : aev env' x = aev env x := by
  cases x with
  | tmp t => exact h t hx
  | _ => rfl

theorem aparts_congr {pl : Nat → Option (Nat × Nat × Nat)} : ∀ {l : List (Nat × Operand)} {gs : Segs} {K : Segs → Prop}, (∀ x ∈ l, aev env' x.2 = aev env x.2) → aparts P pl env l gs K → aparts P pl env' l gs K
  | [], _, _, _, h => h
  | (j, x) :: r, gs, K, he, h => by
    simp only [aparts] at h ⊢
    have hx : aev env' x = aev env x := he (j, x) (by simp)
    rw [hx]
    split at h
    · rename_i e1 e2
      exact ⟨h.1, stSegs_mono (fun y hy => aparts_congr (fun z hz => he z (by simp [hz])) hy) h.2⟩
    · exact h.elim

theorem capsOf_congr : ∀ {l : List Operand}, (∀ x ∈ l, aev env' x = aev env x) → capsOf env' l = capsOf env l
  | [], _ => rfl
  | x :: r, he => by
    simp only [capsOf]
    rw [he x (by simp), capsOf_congr (fun z hz => he z (by simp [hz]))]

theorem map_congr_aev {l : List Operand} (he : ∀ x ∈ l, aev env' x = aev env x) : l.map (aev env') = l.map (aev env) := List.map_congr_left he

theorem opt_congr_aev {l : Option Operand} (he : ∀ x ∈ l.toArray, aev env' x = aev env x) : l.map (aev env') = l.map (aev env) := by
  cases l with
  | none => rfl
  | some x => simp only [Option.map_some, he x (by simp)]

theorem aop_env {op : Op} {K : AV → Ups → List Id → Prop} (he : ∀ t, Operand.tmp t ∈ op.operands → lk env' t = lk env t) (h : aop P op env m K) : aop P op env' m K := by
  have hx : ∀ {x}, x ∈ op.operands → aev env' x = aev env x := fun hx => aev_congr he hx
  cases op with
  | move x => simp only [aop] at h ⊢; rwa [hx (by simp [Op.operands])]
  | assign x => simp only [aop] at h ⊢; rwa [hx (by simp [Op.operands])]
  | pick a b c => simp only [aop] at h ⊢; rwa [hx (x := a) (by simp [Op.operands]), hx (x := b) (by simp [Op.operands]), hx (x := c) (by simp [Op.operands])]
  | alloc t => exact h
  | box t x => simp only [aop] at h ⊢; rwa [hx (by simp [Op.operands])]
  | build t parts =>
    have hp : ∀ x ∈ parts.toList, aev env' x.2 = aev env x.2 := fun x hm => hx (by simp only [Op.operands, List.mem_toArray, List.mem_map]; exact ⟨x, hm, rfl⟩)
    simp only [aop, abuild] at h ⊢
    split at h
    · exact ⟨h.1, aparts_congr hp h.2⟩
    · exact ⟨h.1, aparts_congr hp h.2⟩
    · exact h.elim
  | buildSlice t len parts =>
    have hp : ∀ x ∈ parts.toList, aev env' x.2 = aev env x.2 := fun x hm => hx (by simp only [Op.operands, List.mem_toArray, List.mem_map]; exact ⟨x, hm, rfl⟩)
    simp only [aop, abuildSlice] at h ⊢
    split at h
    · exact ⟨h.1, h.2.1, h.2.2.1, aparts_congr hp h.2.2.2⟩
    · exact h.elim
  | load t x => simp only [aop, aload] at h ⊢; rwa [hx (by simp [Op.operands])]
  | store t x y => simp only [aop, astore] at h ⊢; rwa [hx (x := x) (by simp [Op.operands]), hx (x := y) (by simp [Op.operands])]
  | nilCheck x => simp only [aop] at h ⊢; rwa [hx (by simp [Op.operands])]
  | binOp op t x y t' => simp only [aop] at h ⊢; rwa [hx (x := x) (by simp [Op.operands]), hx (x := y) (by simp [Op.operands])]
  | unOp op t x => simp only [aop] at h ⊢; rwa [hx (by simp [Op.operands])]
  | convert s d x => simp only [aop] at h ⊢; rwa [hx (by simp [Op.operands])]
  | makeFunc fn first caps =>
    cases fn with
    | func f =>
      simp only [aop] at h ⊢
      rwa [capsOf_congr (fun x hm => hx (by simp only [Op.operands, Array.mem_append]; exact .inr (by simpa using hm)))]
    | _ => exact h
  | makeSlice t x y => simp only [aop] at h ⊢; rwa [hx (x := x) (by simp [Op.operands]), hx (x := y) (by simp [Op.operands])]
  | slice t x lo hi mx =>
    cases mx with
    | none =>
      simp only [aop] at h ⊢
      rwa [hx (x := x) (by simp [Op.operands]), opt_congr_aev (fun y hy => hx (x := y) (by simp only [Op.operands, Array.mem_append]; exact .inl (.inl (.inr hy)))),
        opt_congr_aev (fun y hy => hx (x := y) (by simp only [Op.operands, Array.mem_append]; exact .inl (.inr hy)))]
    | some _ => exact h
  | fieldAddr t x f => simp only [aop] at h ⊢; rwa [hx (by simp [Op.operands])]
  | indexAddr t x i => simp only [aop] at h ⊢; rwa [hx (x := x) (by simp [Op.operands]), hx (x := i) (by simp [Op.operands])]
  | index t x i => simp only [aop] at h ⊢; rwa [hx (x := x) (by simp [Op.operands]), hx (x := i) (by simp [Op.operands])]
  | extract x j => simp only [aop] at h ⊢; rwa [hx (by simp [Op.operands])]
  | call c =>
    obtain ⟨callee, args, ats⟩ := c
    cases callee with
    | value f =>
      simp only [aop, acallee] at h ⊢
      rwa [hx (x := f) (by simp [Op.operands, Call.operands]), map_congr_aev (fun y hy => hx (x := y) (by simp only [Op.operands, Call.operands, Array.mem_append]; exact .inr (by simpa using hy)))]
    | invoke r n => exact h
    | builtin b =>
      simp only [aop] at h ⊢
      rwa [map_congr_aev (fun y hy => hx (x := y) (by simp only [Op.operands, Call.operands, Array.mem_append]; exact .inr (by simpa using hy)))]
  | _ => exact h

theorem Out_env {op : Op} {v : AV} {ups : Ups} {rd : List Id} (he : ∀ t, Operand.tmp t ∈ op.operands → lk env' t = lk env t) (h : Out P op env m v ups rd) : Out P op env' m v ups rd := by
  unfold Out at h ⊢
  split at h
  · rename_i f args ats
    have hx : ∀ {x}, x ∈ (Op.call { callee := .value f, args := args, argTypes := ats }).operands → aev env' x = aev env x := fun hx => aev_congr he hx
    unfold acallee at h ⊢
    rwa [hx (x := f) (by simp [Op.operands, Call.operands]), map_congr_aev (fun y hy => hx (x := y) (by simp only [Op.operands, Call.operands, Array.mem_append]; exact .inr (by simpa using hy)))]
  · exact aop_env he h

theorem slCells_local {x : AV} {esz : Nat} {z : Zk} {g : Sg} {n : Nat} {rd : List Id} (hm : ∀ p ∈ rd, m'.get p.1 p.2 = m.get p.1 p.2) (h : slCells m x esz z (fun g' n' rd' => g' = g ∧ n' = n ∧ rd' = rd)) :
    slCells m' x esz z (fun g' n' rd' => g' = g ∧ n' = n ∧ rd' = rd) := by
  unfold slCells at h ⊢
  split at h
  · exact h
  · rename_i a k st off len e
    split at h
    · rename_i rw_ gs e2
      split at h
      · rename_i g0 e3
        have hrd : rd = [(a, k)] := h.2.2.2.2.symm
        rw [hm (a, k) (by simp [hrd]), e2]
        simp only [e3]
        exact h
      · exact h.elim
    · exact h.elim
  · exact h.elim

theorem slCells_rd {x : AV} {esz : Nat} {z : Zk} {g : Sg} {n : Nat} {rd : List Id} (h : slCells m x esz z (fun g' n' rd' => g' = g ∧ n' = n ∧ rd' = rd)) :
    x = .ref .nils ∨ ∃ a k st off len e, x = .ref (.sl a k st off len e) ∧ rd = [(a, k)] := by
  unfold slCells at h
  split at h
  · exact .inl rfl
  · split at h
    · split at h
      · exact .inr ⟨_, _, _, _, _, _, rfl, h.2.2.2.2.symm⟩
      · exact h.elim
    · exact h.elim
  · exact h.elim

theorem killed_local {x : AV} {rd : List Id} {K : Ups → Prop} (hx : x = .ref .nils ∨ ∃ a k st off len e, x = .ref (.sl a k st off len e) ∧ rd = [(a, k)]) (hm : ∀ p ∈ rd, m'.get p.1 p.2 = m.get p.1 p.2) (h : killed m x K) : killed m' x K := by
  rcases hx with rfl | ⟨a, k, st, off, len, e, rfl, rfl⟩
  · exact h
  · simp only [killed] at h ⊢
    rwa [hm (a, k) (by simp)]

theorem aop_mem {op : Op} {v : AV} {ups : Ups} {rd : List Id} (hm : ∀ p, p ∈ rd ∨ p ∈ idsU ups → m'.get p.1 p.2 = m.get p.1 p.2) (hn : m'.next = m.next) (hc : isCall op = false) (h : aop P op env m (X3 v ups rd)) : aop P op env m' (X3 v ups rd) := by
  cases op with
  | alloc t => simp only [aop] at h ⊢; rwa [hn]
  | box t x => simp only [aop] at h ⊢; rwa [hn]
  | buildSlice t len parts => simp only [aop] at h ⊢; rwa [hn]
  | load t x =>
    simp only [aop, aload] at h ⊢
    split at h
    · rename_i a k st off e1
      split at h
      · rename_i rw_ gs e2
        have hrd : rd = [(a, k)] := by
          split at h
          · obtain ⟨_, ⟨_, _, h⟩, _⟩ := ldAg_det h.2; exact h.symm
          · obtain ⟨_, ⟨_, _, h⟩, _⟩ := ldAg_det h.2; exact h.symm
          · exact h.elim
          · obtain ⟨_, ⟨_, _, h⟩, _⟩ := ldSc_det h; exact h.symm
        rw [hm (a, k) (.inl (by simp [hrd])), e2]
        exact h
      · exact h.elim
    · exact h.elim
  | store t x y =>
    simp only [aop, astore] at h ⊢
    split at h
    · rename_i a k st off vs e1 e2
      split at h
      · rename_i gs e3
        have hu : ∃ b, ups = [((a, k), b)] := by
          obtain ⟨_, ⟨_, h, _⟩, _⟩ := stSegs_det h.2.2
          exact ⟨_, h.symm⟩
        obtain ⟨b, hu⟩ := hu
        rw [hm (a, k) (.inr (by simp [hu, idsU])), e3]
        exact h
      · exact h.elim
    · exact h.elim
  | makeSlice t x y => simp only [aop, amakeSlice] at h ⊢; rwa [hn]
  | slice t x lo hi mx => cases mx <;> exact h
  | makeFunc fn first caps => cases fn <;> exact h
  | call c =>
    obtain ⟨callee, args, ats⟩ := c
    cases callee with
    | value f => simp [isCall] at hc
    | invoke r n => exact h
    | builtin b =>
      simp only [aop, abuiltin] at h ⊢
      split at h
      · exact h
      · obtain ⟨h0, h⟩ := h
        refine ⟨h0, ?_⟩
        unfold aappend at h ⊢
        split at h
        · obtain ⟨h0, h1, h2, h3, h⟩ := h
          obtain ⟨g, n, rd1, h, e1⟩ := slCells_det h
          obtain ⟨g', n', rd2, h, e2⟩ := slCells_det h
          obtain ⟨h4, h5, h⟩ := h
          obtain ⟨ks, h, e3⟩ := killed_det h
          obtain ⟨g2, h, e4⟩ := catSg_det h
          have hrd : rd = rd1 ++ rd2 := h.2.2.symm
          have m1 : ∀ p ∈ rd1, m'.get p.1 p.2 = m.get p.1 p.2 := fun p hp => hm p (.inl (by rw [hrd]; exact List.mem_append_left _ hp))
          have m2 : ∀ p ∈ rd2, m'.get p.1 p.2 = m.get p.1 p.2 := fun p hp => hm p (.inl (by rw [hrd]; exact List.mem_append_right _ hp))
          refine ⟨h0, h1, h2, h3, slCells_mono (fun a b c ⟨r1, r2, r3⟩ => ?_) (slCells_local m1 e1)⟩
          subst r1; subst r2; subst r3
          refine slCells_mono (fun a b c ⟨r1, r2, r3⟩ => ?_) (slCells_local m2 e2)
          subst r1; subst r2; subst r3
          refine ⟨h4, h5, killed_mono (fun u hu => ?_) (killed_local (slCells_rd e1) m1 e3)⟩
          subst hu
          refine catSg_mono (fun u hu => ?_) e4
          subst hu
          rw [hn]
          exact h
        · exact h.elim
      · exact h.elim
  | _ => exact h

theorem Out_mem {op : Op} {v : AV} {ups : Ups} {rd : List Id} (hm : ∀ p, p ∈ rd ∨ p ∈ idsU ups → m'.get p.1 p.2 = m.get p.1 p.2) (hn : m'.next = m.next) (h : Out P op env m v ups rd) : Out P op env m' v ups rd := by
  unfold Out at h ⊢
  split at h
  · unfold acallee at h ⊢
    split at h
    · obtain ⟨h1, h2, h3⟩ := h
      refine ⟨h1, fun p hp => by rw [hm p (.inl hp)]; exact h2 p hp, ?_⟩
      have : argBlks m' rd = argBlks m rd := by
        unfold argBlks
        exact List.map_congr_left fun p hp => by rw [hm p (.inl hp)]
      rw [this, hn]
      exact h3
    · exact h.elim
  · rename_i hne
    refine aop_mem hm hn ?_ h
    unfold isCall
    split
    · exact absurd rfl (hne _ _ _)
    · rfl

end
end Go.Abs

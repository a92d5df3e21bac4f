/-
Locality: an outcome hangs on the operands and on the memory that is read or written alone.
-/
import Derived.Test.YtjmenocghjggcaaAbsJ
namespace Go.Abs
open Go
set_option linter.unusedVariables false
set_option linter.unusedSectionVars false
set_option linter.unusedSimpArgs false
set_option linter.defProp false

def idsU (ups : Ups) : List Id := ups.map (·.1)

section
variable {P : Program} {env env' : Env} {m m' : Mem}

theorem aev_congr {op : Op} (h : ∀ t, Operand.tmp t ∈ op.operands → lk env' t = lk env t) {x : Operand} (hx : x ∈ op.operands) : aev env' x = aev env x := by
  cases x with
  | tmp t => exact h t hx
  | _ => rfl

theorem aparts_congr {pl : Nat → Option (Nat × Nat × Nat)} : ∀ {l : List (Nat × Operand)} {gs : Segs} {K : Segs → Prop}, (∀ x ∈ l, aev env' x.2 = aev env x.2) → aparts P pl env l gs K → aparts P pl env' l gs K
  | [], _, _, _, h => h
  | (j, x) :: r, gs, K, he, h => by
    simp only [aparts] at h ⊢
    have hx : aev env' x = aev env x := he (j, x) (by simp)
    rw [hx]
    split at h
    · rename_i e1 e2
      exact ⟨h.1, stSegs_mono (fun y hy => aparts_congr (fun z hz => he z (by simp [hz])) hy) h.2⟩
    · exact h.elim

theorem capsOf_congr : ∀ {l : List Operand}, (∀ x ∈ l, aev env' x = aev env x) → capsOf env' l = capsOf env l
  | [], _ => rfl
  | x :: r, he => by
    simp only [capsOf]
    rw [he x (by simp), capsOf_congr (fun z hz => he z (by simp [hz]))]

theorem map_congr_aev {l : List Operand} (he : ∀ x ∈ l, aev env' x = aev env x) : l.map (aev env') = l.map (aev env) := List.map_congr_left he

theorem opt_congr_aev {l : Option Operand} (he : ∀ x ∈ l.toArray, aev env' x = aev env x) : l.map (aev env') = l.map (aev env) := by
  cases l with
  | none => rfl
  | some x => simp only [Option.map_some, he x (by simp)]

theorem aop_env {op : Op} {K : AV → Ups → List Id → Prop} (he : ∀ t, Operand.tmp t ∈ op.operands → lk env' t = lk env t) (h : aop P op env m K) : aop P op env' m K := by
  have hx : ∀ {x}, x ∈ op.operands → aev env' x = aev env x := fun hx => aev_congr he hx
  cases op with
  | move x => simp only [aop] at h ⊢; rwa [hx (by simp [Op.operands])]
  | assign x => simp only [aop] at h ⊢; rwa [hx (by simp [Op.operands])]
  | pick a b c => simp only [aop] at h ⊢; rwa [hx (x := a) (by simp [Op.operands]), hx (x := b) (by simp [Op.operands]), hx (x := c) (by simp [Op.operands])]
  | alloc t => exact h
  | box t x => simp only [aop] at h ⊢; rwa [hx (by simp [Op.operands])]
  | build t parts =>
    have hp : ∀ x ∈ parts.toList, aev env' x.2 = aev env x.2 := fun x hm => hx (by simp only [Op.operands, List.mem_toArray, List.mem_map]; exact ⟨x, hm, rfl⟩)
    simp only [aop, abuild] at h ⊢
    split at h
    · exact ⟨h.1, aparts_congr hp h.2⟩
    · exact ⟨h.1, aparts_congr hp h.2⟩
    · exact h.elim
  | buildSlice t len parts =>
    have hp : ∀ x ∈ parts.toList, aev env' x.2 = aev env x.2 := fun x hm => hx (by simp only [Op.operands, List.mem_toArray, List.mem_map]; exact ⟨x, hm, rfl⟩)
    simp only [aop, abuildSlice] at h ⊢
    split at h
    · exact ⟨h.1, h.2.1, h.2.2.1, aparts_congr hp h.2.2.2⟩
    · split at h
      · exact ⟨h.1, h.2.1, h.2.2.1, aparts_congr hp h.2.2.2⟩
      · exact h.elim
    · exact h.elim
  | load t x => simp only [aop, aload] at h ⊢; rwa [hx (by simp [Op.operands])]
  | store t x y => simp only [aop, astore] at h ⊢; rwa [hx (x := x) (by simp [Op.operands]), hx (x := y) (by simp [Op.operands])]
  | nilCheck x => simp only [aop] at h ⊢; rwa [hx (by simp [Op.operands])]
  | binOp op t x y t' => simp only [aop] at h ⊢; rwa [hx (x := x) (by simp [Op.operands]), hx (x := y) (by simp [Op.operands])]
  | unOp op t x => simp only [aop] at h ⊢; rwa [hx (by simp [Op.operands])]
  | convert s d x => simp only [aop] at h ⊢; rwa [hx (by simp [Op.operands])]
  | makeFunc fn first caps =>
    cases fn with
    | func f =>
      simp only [aop] at h ⊢
      rwa [capsOf_congr (fun x hm => hx (by simp only [Op.operands, Array.mem_append]; exact .inr (by simpa using hm)))]
    | _ => exact h
  | makeSlice t x y => simp only [aop] at h ⊢; rwa [hx (x := x) (by simp [Op.operands]), hx (x := y) (by simp [Op.operands])]
  | slice t x lo hi mx =>
    cases mx with
    | none =>
      simp only [aop] at h ⊢
      rwa [hx (x := x) (by simp [Op.operands]), opt_congr_aev (fun y hy => hx (x := y) (by simp only [Op.operands, Array.mem_append]; exact .inl (.inl (.inr hy)))),
        opt_congr_aev (fun y hy => hx (x := y) (by simp only [Op.operands, Array.mem_append]; exact .inl (.inr hy)))]
    | some _ => exact h
  | fieldAddr t x f => simp only [aop] at h ⊢; rwa [hx (by simp [Op.operands])]
  | indexAddr t x i => simp only [aop] at h ⊢; rwa [hx (x := x) (by simp [Op.operands]), hx (x := i) (by simp [Op.operands])]
  | index t x i => simp only [aop] at h ⊢; rwa [hx (x := x) (by simp [Op.operands]), hx (x := i) (by simp [Op.operands])]
  | extract x j => simp only [aop] at h ⊢; rwa [hx (by simp [Op.operands])]
  | call c =>
    obtain ⟨callee, args, ats⟩ := c
    cases callee with
    | value f =>
      simp only [aop, acallee] at h ⊢
      rwa [hx (x := f) (by simp [Op.operands, Call.operands]), map_congr_aev (fun y hy => hx (x := y) (by simp only [Op.operands, Call.operands, Array.mem_append]; exact .inr (by simpa using hy)))]
    | invoke r n => exact h
    | builtin b =>
      simp only [aop] at h ⊢
      rwa [map_congr_aev (fun y hy => hx (x := y) (by simp only [Op.operands, Call.operands, Array.mem_append]; exact .inr (by simpa using hy)))]
  | _ => exact h

theorem Out_env {op : Op} {v : AV} {ups : Ups} {rd : List Id} (he : ∀ t, Operand.tmp t ∈ op.operands → lk env' t = lk env t) (h : Out P op env m v ups rd) : Out P op env' m v ups rd := by
  unfold Out at h ⊢
  split at h
  · rename_i f args ats
    have hx : ∀ {x}, x ∈ (Op.call { callee := .value f, args := args, argTypes := ats }).operands → aev env' x = aev env x := fun hx => aev_congr he hx
    unfold acallee at h ⊢
    rwa [hx (x := f) (by simp [Op.operands, Call.operands]), map_congr_aev (fun y hy => hx (x := y) (by simp only [Op.operands, Call.operands, Array.mem_append]; exact .inr (by simpa using hy)))]
  · exact aop_env he h

theorem slCells_local {x : AV} {esz : Nat} {z : Zk} {g : Sg} {n : Nat} {rd : List Id} (hm : ∀ p ∈ rd, m'.get p.1 p.2 = m.get p.1 p.2) (h : slCells m x esz z (fun g' n' rd' => g' = g ∧ n' = n ∧ rd' = rd)) :
    slCells m' x esz z (fun g' n' rd' => g' = g ∧ n' = n ∧ rd' = rd) := by
  unfold slCells at h ⊢
  split at h
  · exact h
  · rename_i a k st off len e
    split at h
    · rename_i rw_ gs e2
      split at h
      · rename_i g0 e3
        have hrd : rd = [(a, k)] := h.2.2.2.2.symm
        rw [hm (a, k) (by simp [hrd]), e2]
        simp only [e3]
        exact h
      · exact h.elim
    · exact h.elim
  · exact h.elim

theorem slCells_rd {x : AV} {esz : Nat} {z : Zk} {g : Sg} {n : Nat} {rd : List Id} (h : slCells m x esz z (fun g' n' rd' => g' = g ∧ n' = n ∧ rd' = rd)) :
    x = .ref .nils ∨ ∃ a k st off len e, x = .ref (.sl a k st off len e) ∧ rd = [(a, k)] := by
  unfold slCells at h
  split at h
  · exact .inl rfl
  · split at h
    · split at h
      · exact .inr ⟨_, _, _, _, _, _, rfl, h.2.2.2.2.symm⟩
      · exact h.elim
    · exact h.elim
  · exact h.elim

theorem slSegs_local {x : AV} {esz : Nat} {g : Segs} {n : Nat} {rd : List Id} (hm : ∀ p ∈ rd, m'.get p.1 p.2 = m.get p.1 p.2) (h : slSegs m x esz (fun g' n' rd' => g' = g ∧ n' = n ∧ rd' = rd)) :
    slSegs m' x esz (fun g' n' rd' => g' = g ∧ n' = n ∧ rd' = rd) := by
  unfold slSegs at h ⊢
  split at h
  · rename_i a k st off len e
    split at h
    · rename_i rw_ gs e2
      have hrd : rd = [(a, k)] := h.2.2.2.2.2.2.symm
      rw [hm (a, k) (by simp [hrd]), e2]
      exact h
    · exact h.elim
  · exact h.elim

theorem slSegs_rd {x : AV} {esz : Nat} {g : Segs} {n : Nat} {rd : List Id} (h : slSegs m x esz (fun g' n' rd' => g' = g ∧ n' = n ∧ rd' = rd)) :
    x = .ref .nils ∨ ∃ a k st off len e, x = .ref (.sl a k st off len e) ∧ rd = [(a, k)] := by
  unfold slSegs at h
  split at h
  · split at h
    · exact .inr ⟨_, _, _, _, _, _, rfl, h.2.2.2.2.2.2.symm⟩
    · exact h.elim
  · exact h.elim

theorem killed_local {x : AV} {rd : List Id} {K : Ups → Prop} (hx : x = .ref .nils ∨ ∃ a k st off len e, x = .ref (.sl a k st off len e) ∧ rd = [(a, k)]) (hm : ∀ p ∈ rd, m'.get p.1 p.2 = m.get p.1 p.2) (h : killed m x K) : killed m' x K := by
  rcases hx with rfl | ⟨a, k, st, off, len, e, rfl, rfl⟩
  · exact h
  · simp only [killed] at h ⊢
    rwa [hm (a, k) (by simp)]

theorem aop_mem {op : Op} {v : AV} {ups : Ups} {rd : List Id} (hm : ∀ p, p ∈ rd ∨ p ∈ idsU ups → m'.get p.1 p.2 = m.get p.1 p.2) (hn : m'.next = m.next) (hc : isCall op = false) (h : aop P op env m (X3 v ups rd)) : aop P op env m' (X3 v ups rd) := by
  cases op with
  | alloc t => simp only [aop] at h ⊢; rwa [hn]
  | box t x => simp only [aop] at h ⊢; rwa [hn]
  | buildSlice t len parts => simp only [aop] at h ⊢; rwa [hn]
  | load t x =>
    simp only [aop, aload] at h ⊢
    split at h
    · rename_i a k st off e1
      split at h
      · rename_i rw_ gs e2
        have hrd : rd = [(a, k)] := by
          split at h
          · obtain ⟨_, ⟨_, _, h⟩, _⟩ := ldAg_det h.2; exact h.symm
          · obtain ⟨_, ⟨_, _, h⟩, _⟩ := ldAg_det h.2; exact h.symm
          · exact h.elim
          · obtain ⟨_, ⟨_, _, h⟩, _⟩ := ldSc_det h; exact h.symm
        rw [hm (a, k) (.inl (by simp [hrd])), e2]
        exact h
      · exact h.elim
    · exact h.elim
  | store t x y =>
    simp only [aop, astore] at h ⊢
    split at h
    · rename_i a k st off vs e1 e2
      split at h
      · rename_i gs e3
        have hu : ∃ b, ups = [((a, k), b)] := by
          obtain ⟨_, ⟨_, h, _⟩, _⟩ := stSegs_det h.2.2
          exact ⟨_, h.symm⟩
        obtain ⟨b, hu⟩ := hu
        rw [hm (a, k) (.inr (by simp [hu, idsU])), e3]
        exact h
      · exact h.elim
    · exact h.elim
  | makeSlice t x y => simp only [aop, amakeSlice] at h ⊢; rwa [hn]
  | slice t x lo hi mx =>
    cases mx with
    | some _ => exact h
    | none =>
      simp only [aop, asliceV] at h ⊢
      split at h
      · rename_i a k st off e
        obtain ⟨v', ⟨_, _, hrd⟩, _⟩ := asliceP_det h
        unfold asliceP at h ⊢
        rw [hm (a, k) (.inl (by rw [← hrd]; simp))]
        exact h
      · exact h
  | makeFunc fn first caps => cases fn <;> exact h
  | call c =>
    obtain ⟨callee, args, ats⟩ := c
    cases callee with
    | value f => simp [isCall] at hc
    | invoke r n => exact h
    | builtin b =>
      simp only [aop, abuiltin] at h ⊢
      split at h
      · exact h
      · obtain ⟨h0, h⟩ := h
        refine ⟨h0, ?_⟩
        unfold aappend at h ⊢
        split at h
        · obtain ⟨h0, h1, h2, h3, h⟩ := h
          obtain ⟨g, n, rd1, h, e1⟩ := slCells_det h
          obtain ⟨g', n', rd2, h, e2⟩ := slCells_det h
          obtain ⟨h4, h5, h⟩ := h
          obtain ⟨ks, h, e3⟩ := killed_det h
          obtain ⟨g2, h, e4⟩ := catSg_det h
          have hrd : rd = rd1 ++ rd2 := h.2.2.symm
          have m1 : ∀ p ∈ rd1, m'.get p.1 p.2 = m.get p.1 p.2 := fun p hp => hm p (.inl (by rw [hrd]; exact List.mem_append_left _ hp))
          have m2 : ∀ p ∈ rd2, m'.get p.1 p.2 = m.get p.1 p.2 := fun p hp => hm p (.inl (by rw [hrd]; exact List.mem_append_right _ hp))
          refine ⟨h0, h1, h2, h3, slCells_mono (fun a b c ⟨r1, r2, r3⟩ => ?_) (slCells_local m1 e1)⟩
          subst r1; subst r2; subst r3
          refine slCells_mono (fun a b c ⟨r1, r2, r3⟩ => ?_) (slCells_local m2 e2)
          subst r1; subst r2; subst r3
          refine ⟨h4, h5, killed_mono (fun u hu => ?_) (killed_local (slCells_rd e1) m1 e3)⟩
          subst hu
          refine catSg_mono (fun u hu => ?_) e4
          subst hu
          rw [hn]
          exact h
        · split at h
          · obtain ⟨h0, h1, h2, h⟩ := h
            obtain ⟨g, n, rd1, h, e1⟩ := slSegs_det h
            obtain ⟨g', n', rd2, h, e2⟩ := slSegs_det h
            obtain ⟨h4, h⟩ := h
            obtain ⟨ks, h, e3⟩ := killed_det h
            have hrd : rd = rd1 ++ rd2 := h.2.2.symm
            have m1 : ∀ p ∈ rd1, m'.get p.1 p.2 = m.get p.1 p.2 := fun p hp => hm p (.inl (by rw [hrd]; exact List.mem_append_left _ hp))
            have m2 : ∀ p ∈ rd2, m'.get p.1 p.2 = m.get p.1 p.2 := fun p hp => hm p (.inl (by rw [hrd]; exact List.mem_append_right _ hp))
            refine ⟨h0, h1, h2, slSegs_mono (fun a b c ⟨r1, r2, r3⟩ => ?_) (slSegs_local m1 e1)⟩
            subst r1; subst r2; subst r3
            refine slSegs_mono (fun a b c ⟨r1, r2, r3⟩ => ?_) (slSegs_local m2 e2)
            subst r1; subst r2; subst r3
            refine ⟨h4, killed_mono (fun u hu => ?_) (killed_local (slSegs_rd e1) m1 e3)⟩
            subst hu
            rw [hn]
            exact h
          · exact h.elim
        · exact h.elim
      · exact h
      · exact h
      · unfold acopy at h ⊢
        split at h
        · rename_i esz bytes a k st off n e e1 e2
          obtain ⟨h0, h1, h⟩ := h
          obtain ⟨g, n', rd1, h, e3⟩ := slCells_det h
          obtain ⟨h2, h⟩ := h
          split at h
          · rename_i gs e4
            obtain ⟨g2, ⟨hv, hu, hrd⟩, e5⟩ := stSegs_det h
            refine ⟨h0, h1, slCells_mono (fun x1 x2 x3 ⟨r1, r2, r3⟩ => ?_) (slCells_local (fun p hp => hm p (.inl (by rw [← hrd]; exact hp))) e3)⟩
            subst r1; subst r2; subst r3
            refine ⟨h2, ?_⟩
            rw [hm (a, k) (.inr (by rw [← hu]; simp [idsU])), e4]
            exact h
          · exact h.elim
        · exact h.elim
      · exact h.elim
  | _ => exact h

theorem Out_mem {op : Op} {v : AV} {ups : Ups} {rd : List Id} (hm : ∀ p, p ∈ rd ∨ p ∈ idsU ups → m'.get p.1 p.2 = m.get p.1 p.2) (hn : m'.next = m.next) (h : Out P op env m v ups rd) : Out P op env m' v ups rd := by
  unfold Out at h ⊢
  split at h
  · unfold acallee at h ⊢
    split at h
    · obtain ⟨h1, h2, h3⟩ := h
      refine ⟨h1, fun p hp => by rw [hm p (.inl hp)]; exact h2 p hp, ?_⟩
      have : argBlks m' rd = argBlks m rd := by
        unfold argBlks
        exact List.map_congr_left fun p hp => by rw [hm p (.inl hp)]
      rw [this, hn]
      exact h3
    · exact h.elim
  · rename_i hne
    refine aop_mem hm hn ?_ h
    unfold isCall
    split
    · exact absurd rfl (hne _ _ _)
    · rfl

end
end Go.Abs

/-
Regions: in the order of the text, and in whatever order the tape picks.
-/
namespace Go.Abs
open Go
set_option linter.unusedVariables false
set_option linter.unusedSectionVars false
set_option linter.unusedSimpArgs false
set_option linter.defProp false

structure St (ρ : Rho) (own : Nat → Prop) (N n0 : Nat) (ρ0 : Rho) (w0 : World) (env : Env) (m : Mem) (a : Act) (w : World) : Prop where
  env : RelE ρ env a
  mem : MemRel ρ own m.get w
  fresh : ∀ x k, m.next ≤ x → ρ x k = none
  nz : 0 < m.next
  ownf : ∀ b, w.heap.size ≤ b → own b
  size : a.tmps.size = N
  defers : a.defers = []
  base : ∀ k, ρ 0 k = ρ0 0 k
  args : m.args.length = n0
  kept : Kept own w0 w

section
variable {P : Program} {ρ : Rho} {own : Nat → Prop} {N n0 : Nat} {ρ0 : Rho} {w0 : World} {env : Env} {m : Mem} {a : Act} {w : World}

theorem St.ctx (s : St ρ own N n0 ρ0 w0 env m a w) : Ctx ρ own env m a w :=
  ⟨s.env, s.mem, fun k => s.fresh _ k (Nat.le_refl _), by have := s.nz; omega, s.ownf⟩

theorem RelE.put {ρ' : Rho} {dst : Option Tmp} {v : AV} {val : Value} (h : RelE ρ env a) (hle : Le ρ ρ') (hd : ∀ d, dst = some d → d < a.tmps.size) (hv : RelV ρ' v val) : RelE ρ' (setD env dst v) (a.put dst val) := by
  intro t
  cases dst with
  | none => exact (h t).mono hle
  | some d =>
    have := hd d rfl
    simp only [setD, lk, Act.put]
    by_cases hc : d = t
    · subst hc
      rw [if_pos rfl]
      simpa [Array.getD, this] using hv
    · rw [if_neg hc]
      have e : (a.tmps.setIfInBounds d val).getD t undef = a.tmps.getD t undef := by
        simp only [Array.getD_eq_getD_getElem?]
        rw [Array.getElem?_setIfInBounds_ne hc]
      rw [e]
      exact (h t).mono hle

theorem put_size (a : Act) (dst : Option Tmp) (v : Value) : (a.put dst v).tmps.size = a.tmps.size := by cases dst <;> simp [Act.put]
theorem put_defers (a : Act) (dst : Option Tmp) (v : Value) : (a.put dst v).defers = a.defers := by cases dst <;> rfl

theorem St.step {o : Oper} {ups : Ups} {v : AV} {val : Value} {w' : World} {ρ' : Rho} (s : St ρ own N n0 ρ0 w0 env m a w) (hd : ∀ d, o.dst = some d → d < N) (hu : ∀ x ∈ ups, x.1.1 = 0 → x.1.2 < m.args.length)
    (h : After ρ own m ups v w val w' ρ') : St ρ' own N n0 ρ0 w0 (setD env o.dst v) (m.upd ups).tick (a.put o.dst val) w' := by
  refine ⟨s.env.put h.le (fun d hh => by rw [s.size]; exact hd d hh) h.val, ?_, fun x k hx => ?_, by simp [Mem.tick], fun b hb => s.ownf b (Nat.le_trans h.kept.grows hb), ?_, ?_, fun k => ?_, ?_, s.kept.trans h.kept⟩
  · rw [Mem.get_tick, Mem.get_upd _ _ hu]; exact h.mem
  · simp only [Mem.tick, Mem.upd_next] at hx
    rw [h.only x k (by omega)]
    exact s.fresh x k (by omega)
  · rw [put_size]; exact s.size
  · rw [put_defers]; exact s.defers
  · rw [h.only 0 k (by have := s.nz; omega)]; exact s.base k
  · simp only [Mem.tick, Mem.upd_args]; exact s.args

theorem St.skip {o : Oper} (s : St ρ own N n0 ρ0 w0 env m a w) (hd : ∀ d, o.dst = some d → d < N) : St ρ own N n0 ρ0 w0 (setD env o.dst (.tup [])) m.tick (a.put o.dst undef) w :=
  s.step (ups := []) (v := .tup []) hd (by simp) ⟨Le.refl ρ, fun _ _ _ => rfl, by simp [RelV, RelVs, undef], s.mem, Kept.refl own w⟩

theorem yielded_of (h : RelE ρ env a) {all : List Oper} {g t : Nat} {x : Bool} (h1 : dstOf all g = some t) (h2 : lk env t = .b x) : yielded all.toArray a.tmps g = some x := by
  have h3 := h t
  rw [h2] at h3
  simp only [RelV] at h3
  unfold dstOf at h1
  unfold yielded
  have e : ((all.toArray)[g]?).bind (·.dst) = some t := by simpa using h1
  rw [e]
  simp only [Option.bind_some]
  rw [Array.getD_eq_getD_getElem?] at h3
  cases hq : a.tmps[t]? with
  | none => rw [hq] at h3; simp [undef] at h3
  | some u => rw [hq] at h3; simp at h3; subst h3; rfl

theorem yielded_none (h : RelE ρ env a) {all : List Oper} {g t : Nat} (h1 : dstOf all g = some t) (h2 : lk env t = .tup []) : yielded all.toArray a.tmps g = none := by
  have h3 := h t
  rw [h2] at h3
  simp only [RelV, RelVs] at h3
  obtain ⟨l, h3, h4⟩ := h3
  subst h4
  unfold dstOf at h1
  unfold yielded
  have e : ((all.toArray)[g]?).bind (·.dst) = some t := by simpa using h1
  rw [e]
  simp only [Option.bind_some]
  rw [Array.getD_eq_getD_getElem?] at h3
  cases hq : a.tmps[t]? with
  | none => rfl
  | some u => rw [hq] at h3; simp at h3; subst h3; rfl

theorem dsts_cons {N : Nat} {o : Oper} {l : List Oper} (h : dstsOk N (o :: l) = true) : (∀ d, o.dst = some d → d < N) ∧ dstsOk N l = true := by
  simp only [dstsOk, List.all_cons, Bool.and_eq_true] at h
  exact ⟨fun d hd => by have := h.1; rw [hd] at this; simpa using this, h.2⟩

theorem aops_seq {Q : Exit → Act → World → Prop} {all : List Oper} {K : Env → Mem → Prop} (hQ : ∀ ρ env m a w, St ρ own N n0 ρ0 w0 env m a w → K env m → Q .normal a w) :
    ∀ (l : List Oper) (j : Nat) (h : Hist) (ρ : Rho) (env : Env) (m : Mem) (a : Act) (w : World), St ρ own N n0 ρ0 w0 env m a w → dstsOk N l = true → aops P false all l j h env m K → wpList P all.toArray Q l a w
  | [], j, h, ρ, env, m, a, w, s, _, hk => hQ ρ env m a w s hk
  | o :: rest, j, h, ρ, env, m, a, w, s, hd, hk => by
    obtain ⟨hd1, hd2⟩ := dsts_cons hd
    simp only [aops, aopX, Bool.false_eq_true, if_false] at hk
    have go : aop P o.op env m (fun v ups rd => aops P false all rest (j + 1) h (setD env o.dst v) (m.upd ups).tick K) → o.wp P a w (wpList P all.toArray Q rest) Q := by
      intro hk
      exact aop_sound s.ctx hk _ _ fun v ups rd val w' ρ' h1 h2 h3 => aops_seq hQ rest (j + 1) h ρ' _ _ _ _ (s.step hd1 h2 h3) hd2 h1
    unfold wpList
    split at hk
    · rename_i hg
      rw [if_pos (by simp [Region.wanted, hg])]
      exact .inl (go hk)
    · rename_i g want hg
      split at hk
      · rename_i t ht
        split at hk
        · rename_i x hx
          have hy := yielded_of s.env ht hx
          by_cases hc : x = want
          · rw [if_pos hc] at hk
            rw [if_pos (by simp [Region.wanted, hg, hy, hc])]
            exact .inl (go hk)
          · rw [if_neg hc] at hk
            rw [if_neg (by simp [Region.wanted, hg, hy, hc])]
            exact aops_seq hQ rest (j + 1) h ρ _ _ _ _ (s.skip hd1) hd2 hk
        · rename_i hx
          have hy := yielded_none s.env ht hx
          rw [if_neg (by simp [Region.wanted, hg, hy])]
          exact aops_seq hQ rest (j + 1) h ρ _ _ _ _ (s.skip hd1) hd2 hk
        · exact hk.elim
      · exact hk.elim

/-! ### whatever order -/

abbrev Out3 := AV × Ups × List Id

def Cond (all : List Oper) (x : Out3) (wr rd : List Id) (i j : Nat) : Prop :=
  ((disj (idsU x.2.1) rd && disj (idsU x.2.1) wr && disj x.2.2 wr) || ordB all i j) = true

def Stepped (P : Program) (all : List Oper) (o : Oper) (env : Env) (m : Mem) (x : Out3) : Prop :=
  match o.guard with
  | none => Out P o.op env m x.1 x.2.1 x.2.2
  | some (g, want) => ∃ t, dstOf all g = some t ∧ ((∃ b, lk env t = .b b ∧ if b = want then Out P o.op env m x.1 x.2.1 x.2.2 else x = (.tup [], [], [])) ∨ (lk env t = .tup [] ∧ x = (.tup [], [], [])))

def DF (P : Program) (all : List Oper) (K : Env → Mem → Prop) : List Oper → Nat → List Out3 → Env → Mem → Prop
  | [], _, _, env, m => K env m
  | o :: rest, j, outs, env, m => ∃ x, outs[j]? = some x ∧ Stepped P all o env m x ∧ (∀ i y, i < j → outs[i]? = some y → Cond all y (idsU x.2.1) x.2.2 i j) ∧
      DF P all K rest (j + 1) outs (setD env o.dst x.1) (m.upd x.2.1).tick

theorem drun {all : List Oper} {K : Env → Mem → Prop} : ∀ (l : List Oper) (h : Hist) (env : Env) (m : Mem) (outs0 : List Out3),
    (∀ j wr rd, chk all j wr rd h → ∀ i y, outs0[i]? = some y → Cond all y wr rd i j) → aops P true all l outs0.length h env m K →
    ∃ outs : List Out3, (∀ i, i < outs0.length → outs[i]? = outs0[i]?) ∧ outs.length = outs0.length + l.length ∧ DF P all K l outs0.length outs env m
  | [], h, env, m, outs0, _, hk => ⟨outs0, fun _ _ => rfl, by simp, hk⟩
  | o :: rest, h, env, m, outs0, hh, hk => by
    have push : ∀ (x : Out3) (h' : Hist), (∀ j wr rd, chk all j wr rd h' → ∀ i y, (outs0 ++ [x])[i]? = some y → Cond all y wr rd i j) → Stepped P all o env m x → (∀ i y, i < outs0.length → outs0[i]? = some y → Cond all y (idsU x.2.1) x.2.2 i outs0.length) →
        aops P true all rest (outs0.length + 1) h' (setD env o.dst x.1) (m.upd x.2.1).tick K →
        ∃ outs : List Out3, (∀ i, i < outs0.length → outs[i]? = outs0[i]?) ∧ outs.length = outs0.length + (o :: rest).length ∧ DF P all K (o :: rest) outs0.length outs env m := by
      intro x h' hh' hst hc hk'
      obtain ⟨outs, h1, h2, h3⟩ := drun rest h' (setD env o.dst x.1) (m.upd x.2.1).tick (outs0 ++ [x]) hh' (by simpa using hk')
      have hx : outs[outs0.length]? = some x := by rw [h1 _ (by simp)]; simp
      refine ⟨outs, fun i hi => by rw [h1 i (by simp; omega), List.getElem?_append_left hi], by simp at h2 ⊢; omega, x, hx, hst, fun i y hi hy => ?_, by simpa using h3⟩
      rw [h1 i (by simp; omega), List.getElem?_append_left hi] at hy
      exact hc i y hi hy
    have ext : ∀ (x : Out3) (h' : Hist), (∀ j wr rd, chk all j wr rd h' → chk all j wr rd h ∧ Cond all x wr rd outs0.length j) → ∀ j wr rd, chk all j wr rd h' → ∀ i y, (outs0 ++ [x])[i]? = some y → Cond all y wr rd i j := by
      intro x h' hx j wr rd hc i y hy
      by_cases hi : i < outs0.length
      · rw [List.getElem?_append_left hi] at hy
        exact hh j wr rd (hx j wr rd hc).1 i y hy
      · rw [List.getElem?_append_right (by omega)] at hy
        have : i = outs0.length := by
          have := (List.getElem?_eq_some_iff.1 hy).1
          simp at this
          omega
        subst this
        simp at hy
        subst hy
        exact (hx j wr rd hc).2
    simp only [aops, if_true] at hk
    have go : (∀ (v : AV) (ups : Ups) (rd : List Id), Out P o.op env m v ups rd → Stepped P all o env m (v, ups, rd)) →
        aopX P true o.op env m (fun v ups rd => chk all outs0.length (ups.map (·.1)) rd h ∧ aops P true all rest (outs0.length + 1) ((outs0.length, ups.map (·.1), rd) :: h) (setD env o.dst v) (m.upd ups).tick K) →
        ∃ outs : List Out3, (∀ i, i < outs0.length → outs[i]? = outs0[i]?) ∧ outs.length = outs0.length + (o :: rest).length ∧ DF P all K (o :: rest) outs0.length outs env m := by
      intro hst hk
      obtain ⟨v, ups, rd, ⟨h1, h2⟩, h3⟩ := aopX_out hk
      refine push (v, ups, rd) _ (ext (v, ups, rd) _ fun j wr rd' hc => ?_) (hst v ups rd h3) (fun i y hi hy => hh _ _ _ h1 i y hy) h2
      simp only [chk] at hc
      exact ⟨hc.2, hc.1⟩
    split at hk
    · rename_i hg
      exact go (fun v ups rd h => by simp only [Stepped, hg]; exact h) hk
    · rename_i g want hg
      split at hk
      · rename_i t ht
        split at hk
        · rename_i b hb
          by_cases hc : b = want
          · rw [if_pos hc] at hk
            exact go (fun v ups rd h => by simp only [Stepped, hg]; exact ⟨t, ht, .inl ⟨b, hb, by rw [if_pos hc]; exact h⟩⟩) hk
          · rw [if_neg hc] at hk
            refine push (.tup [], [], []) h (ext (.tup [], [], []) h fun j wr rd hc => ⟨hc, by simp [Cond, idsU, disj]⟩) (by simp only [Stepped, hg]; exact ⟨t, ht, .inl ⟨b, hb, by rw [if_neg hc]; trivial⟩⟩) (fun i y hi hy => ?_) hk
            simp [Cond, idsU, disj]
        · rename_i hb
          refine push (.tup [], [], []) h (ext (.tup [], [], []) h fun j wr rd hc => ⟨hc, by simp [Cond, idsU, disj]⟩) (by simp only [Stepped, hg]; exact ⟨t, ht, .inr ⟨hb, trivial⟩⟩) (fun i y hi hy => ?_) hk
          simp [Cond, idsU, disj]
        · exact hk.elim
      · exact hk.elim

end

/-! ### what waits for what -/

theorem mask_bit (acc : Array Nat) : ∀ (es : List Edge) (s : Nat) (i : Nat), (es.foldl (fun s e => if Region.binds .any e then s ||| 2 ^ e.on ||| acc.getD e.on 0 else s) s).testBit i = true →
    s.testBit i = true ∨ ∃ e ∈ es, Region.binds .any e = true ∧ (e.on = i ∨ (acc.getD e.on 0).testBit i = true)
  | [], s, i, h => .inl h
  | e :: r, s, i, h => by
    simp only [List.foldl_cons] at h
    rcases mask_bit acc r _ i h with h | ⟨e', he', h1, h2⟩
    · by_cases hb : Region.binds .any e = true
      · rw [if_pos hb] at h
        simp only [Nat.testBit_or, Bool.or_eq_true, Nat.testBit_two_pow, decide_eq_true_eq] at h
        rcases h with (h | h) | h
        · exact .inl h
        · exact .inr ⟨e, by simp, hb, .inl h⟩
        · exact .inr ⟨e, by simp, hb, .inr h⟩
      · rw [if_neg hb] at h; exact .inl h
    · exact .inr ⟨e', by simp [he'], h1, h2⟩

def Claims (all : List Oper) (acc : Array Nat) : Prop :=
  ∀ j i, j < acc.size → (acc.getD j 0).testBit i = true → ∃ o, all[j]? = some o ∧ ∃ e ∈ o.after.toList, Region.binds .any e = true ∧ (e.on = i ∨ (e.on < j ∧ (acc.getD e.on 0).testBit i = true))

theorem getD_push_lt (acc : Array Nat) (x j : Nat) (h : j < acc.size) : (acc.push x).getD j 0 = acc.getD j 0 := by
  simp [Array.getD_eq_getD_getElem?, Array.getElem?_push, Nat.ne_of_lt h]

theorem before_claims (all : List Oper) : Claims all (Region.before all.toArray) := by
  unfold Region.before
  rw [← Array.foldl_toList]
  have key : ∀ (l : List Oper) (acc : Array Nat), (∀ k o, l[k]? = some o → all[acc.size + k]? = some o) → Claims all acc →
      Claims all (l.foldl (fun acc o => acc.push (o.after.foldl (fun s e => if Region.binds .any e then s ||| 2 ^ e.on ||| acc.getD e.on 0 else s) 0)) acc) := by
    intro l
    induction l with
    | nil => intro acc _ h; exact h
    | cons o r ih =>
      intro acc hl hc
      simp only [List.foldl_cons]
      refine ih _ (fun k o' hk => ?_) ?_
      · have := hl (k + 1) o' (by simpa using hk)
        rw [Array.size_push]
        rw [← this]; congr 1; omega
      · intro j i hj hb
        rw [Array.size_push] at hj
        by_cases hlt : j < acc.size
        · rw [getD_push_lt _ _ _ hlt] at hb
          obtain ⟨o', h1, e, h2, h3, h4⟩ := hc j i hlt hb
          refine ⟨o', h1, e, h2, h3, h4.imp id fun h => ⟨h.1, ?_⟩⟩
          rw [getD_push_lt _ _ _ (by omega)]
          exact h.2
        · have : j = acc.size := by omega
          subst this
          have hx : (acc.push (o.after.foldl (fun s e => if Region.binds .any e then s ||| 2 ^ e.on ||| acc.getD e.on 0 else s) 0)).getD acc.size 0 = o.after.foldl (fun s e => if Region.binds .any e then s ||| 2 ^ e.on ||| acc.getD e.on 0 else s) 0 := by
            simp [Array.getD_eq_getD_getElem?]
          rw [hx, ← Array.foldl_toList] at hb
          rcases mask_bit acc _ _ i hb with h | ⟨e, h1, h2, h3⟩
          · simp at h
          · refine ⟨o, by simpa using hl 0 o rfl, e, h1, h2, ?_⟩
            rcases h3 with h3 | h3
            · exact .inl h3
            · by_cases he : e.on < acc.size
              · exact .inr ⟨he, by rw [getD_push_lt _ _ _ he]; exact h3⟩
              · have : acc.getD e.on 0 = 0 := by simp [Array.getD_eq_getD_getElem?, Array.getElem?_eq_none (Nat.le_of_not_lt he)]
                rw [this] at h3
                simp at h3
  exact key all #[] (fun k o h => by simpa using h) (fun j i hj => by simp at hj)

def Closed (all : List Oper) (S : Nat → Bool) : Prop := ∀ j o, S j = true → all[j]? = some o → ∀ e ∈ o.after.toList, Region.binds .any e = true → S e.on = true

theorem Closed.ord {all : List Oper} {S : Nat → Bool} (h : Closed all S) : ∀ (j i : Nat), ordB all i j = true → S j = true → S i = true := by
  intro j
  induction j using Nat.strongRecOn with
  | _ j ih =>
    intro i ho hj
    unfold ordB at ho
    have hlt : j < (Region.before all.toArray).size := by
      rcases Nat.lt_or_ge j (Region.before all.toArray).size with h' | h'
      · exact h'
      · rw [Array.getD_eq_getD_getElem?, Array.getElem?_eq_none h'] at ho
        simp at ho
    obtain ⟨o, h1, e, h2, h3, h4⟩ := before_claims all j i hlt ho
    have he := h j o hj h1 e h2 h3
    rcases h4 with h4 | ⟨h4, h5⟩
    · exact h4 ▸ he
    · exact ih e.on h4 i h5 he

/-! ### the state when a set of operations has been carried out -/

def dstA (all : List Oper) (k : Nat) : Option Tmp := (all[k]?).bind (·.dst)
def outV (outs : List Out3) (k : Nat) : AV := ((outs[k]?).map (·.1)).getD .top
def outU (outs : List Out3) (k : Nat) : Ups := ((outs[k]?).map (·.2.1)).getD []
def outR (outs : List Out3) (k : Nat) : List Id := ((outs[k]?).map (·.2.2)).getD []

def envS (all : List Oper) (outs : List Out3) (E0 : Env) (S : Nat → Bool) : Nat → Env
  | 0 => E0
  | k + 1 => if S k then setD (envS all outs E0 S k) (dstA all k) (outV outs k) else envS all outs E0 S k

def memS (outs : List Out3) (m0 : Mem) (S : Nat → Bool) : Nat → Mem
  | 0 => m0
  | k + 1 => if S k then (memS outs m0 S k).upd (outU outs k) else memS outs m0 S k

theorem lk_setD (E : Env) (d : Option Nat) (v : AV) (t : Nat) : lk (setD E d v) t = if d = some t then v else lk E t := by
  cases d with
  | none => simp [setD]
  | some d => simp [setD, lk]

theorem envS_congr {all : List Oper} {outs : List Out3} {E0 : Env} {S S' : Nat → Bool} {t : Nat} : ∀ (k : Nat), (∀ i, i < k → dstA all i = some t → S i = S' i) → lk (envS all outs E0 S k) t = lk (envS all outs E0 S' k) t
  | 0, _ => rfl
  | k + 1, h => by
    have ih := envS_congr (outs := outs) (E0 := E0) k (fun i hi hd => h i (by omega) hd)
    simp only [envS]
    by_cases hd : dstA all k = some t
    · rw [h k (by omega) hd]
      split
      · rw [lk_setD, lk_setD, if_pos hd, if_pos hd]
      · exact ih
    · split <;> split <;> simp only [lk_setD, if_neg hd, ih]

theorem put_get_ne (m : Mem) (p : Id) (b : Blk) (a k : Nat) (h : ¬ (p.1 = a ∧ p.2 = k)) : (m.put p b).get a k = m.get a k := by
  unfold Mem.put
  split
  · rename_i h0
    simp only [Mem.get]
    split
    · rename_i ha
      have : p.2 ≠ k := fun e => h ⟨h0.trans ha.symm, e⟩
      simp only [List.getD_eq_getElem?_getD, List.getElem?_set_ne this]
    · rfl
  · rename_i h0
    simp only [Mem.get, assoc, if_neg h]

theorem put_get_same (m m' : Mem) (p : Id) (b : Blk) (h : m.args.length = m'.args.length) : (m.put p b).get p.1 p.2 = (m'.put p b).get p.1 p.2 := by
  unfold Mem.put
  split
  · rename_i h0
    simp only [Mem.get, h0, if_true, List.getD_eq_getElem?_getD, List.getElem?_set, h]
  · rename_i h0
    simp [Mem.get, assoc, h0]

theorem upd_get_ne : ∀ (u : Ups) (m : Mem) (p : Id), p ∉ idsU u → (m.upd u).get p.1 p.2 = m.get p.1 p.2
  | [], _, _, _ => rfl
  | (q, b) :: r, m, p, h => by
    simp only [idsU, List.map_cons, List.mem_cons, not_or] at h
    simp only [Mem.upd]
    rw [upd_get_ne r _ p h.2, put_get_ne]
    rintro ⟨e1, e2⟩
    exact h.1 (Prod.ext e1.symm e2.symm)

theorem upd_get_same : ∀ (u : Ups) (m m' : Mem) (p : Id), m.args.length = m'.args.length → (p ∈ idsU u ∨ m.get p.1 p.2 = m'.get p.1 p.2) → (m.upd u).get p.1 p.2 = (m'.upd u).get p.1 p.2
  | [], _, _, _, _, h => by rcases h with h | h; simp [idsU] at h; exact h
  | (q, b) :: r, m, m', p, hl, h => by
    simp only [Mem.upd]
    refine upd_get_same r _ _ p (by rw [Mem.put_args, Mem.put_args, hl]) ?_
    by_cases hq : q = p
    · subst hq; exact .inr (put_get_same m m' q b hl)
    · have hne : ¬ (q.1 = p.1 ∧ q.2 = p.2) := fun e => hq (Prod.ext e.1 e.2)
      rcases h with h | h
      · simp only [idsU, List.map_cons, List.mem_cons] at h
        rcases h with h | h
        · exact absurd h.symm hq
        · exact .inl h
      · exact .inr (by rw [put_get_ne _ _ _ _ _ hne, put_get_ne _ _ _ _ _ hne, h])

theorem memS_args {outs : List Out3} {m0 : Mem} {S : Nat → Bool} : ∀ k, (memS outs m0 S k).args.length = m0.args.length
  | 0 => rfl
  | k + 1 => by
    simp only [memS]
    split
    · rw [Mem.upd_args, memS_args k]
    · exact memS_args k

theorem memS_congr {outs : List Out3} {m0 : Mem} {S S' : Nat → Bool} {p : Id} : ∀ (k : Nat), (∀ i, i < k → p ∈ idsU (outU outs i) → S i = S' i) → (memS outs m0 S k).get p.1 p.2 = (memS outs m0 S' k).get p.1 p.2
  | 0, _ => rfl
  | k + 1, h => by
    have ih := memS_congr (m0 := m0) k (fun i hi hd => h i (by omega) hd)
    simp only [memS]
    by_cases hd : p ∈ idsU (outU outs k)
    · rw [h k (by omega) hd]
      split
      · exact upd_get_same _ _ _ _ (by rw [memS_args, memS_args]) (.inl hd)
      · exact ih
    · split <;> split <;> simp only [upd_get_ne _ _ _ hd, ih]

theorem envS_stop {all : List Oper} {outs : List Out3} {E0 : Env} {S : Nat → Bool} {j : Nat} : ∀ k, (∀ i, j ≤ i → i < j + k → S i = false) → envS all outs E0 S (j + k) = envS all outs E0 S j
  | 0, _ => rfl
  | k + 1, h => by
    rw [← Nat.add_assoc]
    simp only [envS]
    rw [h (j + k) (by omega) (by omega), if_neg (by simp)]
    exact envS_stop k (fun i h1 h2 => h i h1 (by omega))

theorem memS_stop {outs : List Out3} {m0 : Mem} {S : Nat → Bool} {j : Nat} : ∀ k, (∀ i, j ≤ i → i < j + k → S i = false) → memS outs m0 S (j + k) = memS outs m0 S j
  | 0, _ => rfl
  | k + 1, h => by
    rw [← Nat.add_assoc]
    simp only [memS]
    rw [h (j + k) (by omega) (by omega), if_neg (by simp)]
    exact memS_stop k (fun i h1 h2 => h i h1 (by omega))

theorem envS_ext {all : List Oper} {outs : List Out3} {E0 : Env} {S S' : Nat → Bool} : ∀ k, (∀ i, i < k → S i = S' i) → envS all outs E0 S k = envS all outs E0 S' k
  | 0, _ => rfl
  | k + 1, h => by simp only [envS]; rw [h k (by omega), envS_ext k (fun i hi => h i (by omega))]

theorem memS_ext {outs : List Out3} {m0 : Mem} {S S' : Nat → Bool} : ∀ k, (∀ i, i < k → S i = S' i) → memS outs m0 S k = memS outs m0 S' k
  | 0, _ => rfl
  | k + 1, h => by simp only [memS]; rw [h k (by omega), memS_ext k (fun i hi => h i (by omega))]

/-- What the run in the order of the text says, operation by operation. -/
theorem DF_facts {P : Program} {all : List Oper} {K : Env → Mem → Prop} {outs : List Out3} {E0 : Env} {m0 : Mem} : ∀ (l : List Oper) (j : Nat) (m : Mem), (∀ k o, l[k]? = some o → all[j + k]? = some o) →
    m.next = m0.next + j → m.args.length = m0.args.length → (∀ p : Id, m.get p.1 p.2 = (memS outs m0 (fun _ => true) j).get p.1 p.2) → DF P all K l j outs (envS all outs E0 (fun _ => true) j) m →
    (∃ mf, mf.next = m0.next + (j + l.length) ∧ mf.args.length = m0.args.length ∧ (∀ p : Id, mf.get p.1 p.2 = (memS outs m0 (fun _ => true) (j + l.length)).get p.1 p.2) ∧ K (envS all outs E0 (fun _ => true) (j + l.length)) mf) ∧
    ∀ i, j ≤ i → i < j + l.length → ∃ o x mi, all[i]? = some o ∧ outs[i]? = some x ∧ mi.next = m0.next + i ∧ mi.args.length = m0.args.length ∧ (∀ p : Id, mi.get p.1 p.2 = (memS outs m0 (fun _ => true) i).get p.1 p.2) ∧
      Stepped P all o (envS all outs E0 (fun _ => true) i) mi x ∧ (∀ i' y, i' < i → outs[i']? = some y → Cond all y (idsU x.2.1) x.2.2 i' i)
  | [], j, m, _, hn, ha, hg, h => ⟨⟨m, by simpa using hn, ha, by simpa using hg, h⟩, fun i h1 h2 => by simp at h2; omega⟩
  | o :: rest, j, m, hl, hn, ha, hg, ⟨x, hx, hst, hc, h⟩ => by
    have ho : all[j]? = some o := by simpa using hl 0 o rfl
    have hE : envS all outs E0 (fun _ => true) (j + 1) = setD (envS all outs E0 (fun _ => true) j) o.dst x.1 := by
      simp [envS, dstA, ho, outV, hx]
    have hM : memS outs m0 (fun _ => true) (j + 1) = (memS outs m0 (fun _ => true) j).upd x.2.1 := by
      simp [memS, outU, hx]
    rw [← hE] at h
    have hrec := DF_facts (m0 := m0) rest (j + 1) (m.upd x.2.1).tick (fun k o' hk => by have := hl (k + 1) o' (by simpa using hk); rw [← this]; congr 1; omega)
      (by show (m.upd x.2.1).next + 1 = _; rw [Mem.upd_next, hn]; omega) (by simp only [Mem.tick, Mem.upd_args]; exact ha)
      (fun p => by rw [Mem.get_tick, hM]; exact upd_get_same _ _ _ _ (by rw [ha, memS_args]) (.inr (hg p))) h
    obtain ⟨h1, h2⟩ := hrec
    have hlen : j + (o :: rest).length = j + 1 + rest.length := by simp; omega
    rw [hlen]
    refine ⟨h1, fun i hi1 hi2 => ?_⟩
    by_cases hij : i = j
    · subst hij
      exact ⟨o, x, m, ho, hx, hn, ha, hg, hst, hc⟩
    · exact h2 i (by omega) hi2

end Go.Abs

/-
A region that draws its order; then bodies and whole functions: the abstract walk is sound.
-/
namespace Go.Abs
open Go
set_option linter.unusedVariables false
set_option linter.unusedSectionVars false
set_option linter.unusedSimpArgs false
set_option linter.defProp false

theorem disj_false {a b : List Id} {p : Id} (h1 : p ∈ a) (h2 : p ∈ b) : disj a b = false := by
  unfold disj
  cases h : a.all fun p => !b.contains p with
  | false => rfl
  | true =>
    have := List.all_eq_true.1 h p h1
    simp [h2] at this

section
variable {P : Program} {own : Nat → Prop} {N n0 : Nat} {ρ0 : Rho} {w0 : World}

structure DI (all : List Oper) (outs : List Out3) (E0 : Env) (m0 : Mem) (own : Nat → Prop) (N : Nat) (ρ0 : Rho) (w0 : World) (listed : Array Bool) (ρ : Rho) (a : Act) (w : World) : Prop where
  len : listed.size = all.length
  closed : Closed all (fun i => listed.getD i false)
  env : RelE ρ (envS all outs E0 (fun i => listed.getD i false) all.length) a
  mem : MemRel ρ own (memS outs m0 (fun i => listed.getD i false) all.length).get w
  names : ∀ x k, m0.next ≤ x → (∀ i, i < all.length → x = m0.next + i → listed.getD i false = false) → ρ x k = none
  ownf : ∀ b, w.heap.size ≤ b → own b
  size : a.tmps.size = N
  defers : a.defers = []
  base : ∀ k, ρ 0 k = ρ0 0 k
  kept : Kept own w0 w

theorem ready_ne {all : List Oper} (he : edgesOk all = true) {listed : Array Bool} (hl : listed.size = all.length) :
    ∀ j, j < all.length → listed.getD j false = false → Region.ready .any all.toArray listed ≠ [] := by
  intro j
  induction j using Nat.strongRecOn with
  | _ j ih =>
    intro hj hf
    by_cases hex : ∃ i, i < j ∧ listed.getD i false = false
    · obtain ⟨i, hi, hfi⟩ := hex
      exact ih i hi (by omega) hfi
    · have hmem : j ∈ Region.ready .any all.toArray listed := by
        refine mem_ready.2 ⟨?_, all[j], by simp [hj], fun e hem hb => ?_⟩
        · simp only [Array.getD_eq_getD_getElem?] at hf ⊢
          have : j < listed.size := by omega
          simp [this] at hf ⊢
          exact hf
        · have hon : e.on < j := by
            unfold edgesOk at he
            have := List.all_eq_true.1 he j (List.mem_range.2 hj)
            simp only [List.getElem?_eq_getElem hj] at this
            have := List.all_eq_true.1 this e (by simpa using hem)
            simpa [hb] using this
          cases hq : listed.getD e.on false with
          | true => rfl
          | false => exact absurd ⟨e.on, hon, hq⟩ hex
      intro h0
      rw [h0] at hmem
      cases hmem

theorem slotsOk_spec {all : List Oper} (h : slotsOk all = true) {i j : Nat} {oi oj : Oper} (hi : all[i]? = some oi) (hj : all[j]? = some oj) (hne : i ≠ j) {t : Nat} (hd : oi.dst = some t) (hl : t ∈ looks all oj ∨ oj.dst = some t) :
    if i < j then ordB all i j = true else ordB all j i = true := by
  have hi' := (List.getElem?_eq_some_iff.1 hi).1
  have hj' := (List.getElem?_eq_some_iff.1 hj).1
  unfold slotsOk at h
  have h1 := List.all_eq_true.1 h j (List.mem_range.2 hj')
  have h2 := List.all_eq_true.1 h1 i (List.mem_range.2 hi')
  simp only [hi, hj, hd] at h2
  simp only [Bool.or_eq_true, beq_iff_eq] at h2
  rcases h2 with (h2 | h2) | h2
  · exact absurd h2 hne
  · exfalso
    simp only [Bool.not_eq_true', Bool.or_eq_false_iff, List.contains_eq_mem, decide_eq_false_iff_not, beq_eq_false_iff_ne, ne_eq] at h2
    rcases hl with hl | hl
    · exact h2.1 hl
    · exact h2.2 hl
  · unfold ordB
    split at h2
    · rename_i hc; rw [if_pos hc]; exact h2
    · rename_i hc; rw [if_neg hc]; exact h2

theorem getD_set (listed : Array Bool) (i j : Nat) (h : i < listed.size) : (listed.setIfInBounds i true).getD j false = (if j = i then true else listed.getD j false) := by
  simp only [Array.getD_eq_getD_getElem?]
  by_cases hc : j = i
  · subst hc; simp [h]
  · rw [if_neg hc, Array.getElem?_setIfInBounds_ne (Ne.symm hc)]

theorem draw_any {Q : Exit → Act → World → Prop} {all : List Oper} {K : Env → Mem → Prop} {outs : List Out3} {E0 : Env} {m0 : Mem} (hd : dstsOk N all = true) (hs : slotsOk all = true) (he : edgesOk all = true) (hnz : 0 < m0.next) (ha0 : m0.args.length = n0)
    (hfin : ∃ mf, mf.next = m0.next + all.length ∧ mf.args.length = m0.args.length ∧ (∀ p : Id, mf.get p.1 p.2 = (memS outs m0 (fun _ => true) all.length).get p.1 p.2) ∧ K (envS all outs E0 (fun _ => true) all.length) mf)
    (hfacts : ∀ i, i < all.length → ∃ o x mi, all[i]? = some o ∧ outs[i]? = some x ∧ mi.next = m0.next + i ∧ mi.args.length = m0.args.length ∧ (∀ p : Id, mi.get p.1 p.2 = (memS outs m0 (fun _ => true) i).get p.1 p.2) ∧
      Stepped P all o (envS all outs E0 (fun _ => true) i) mi x ∧ (∀ i' y, i' < i → outs[i']? = some y → Cond all y (idsU x.2.1) x.2.2 i' i))
    (hQ : ∀ ρ env m a w, St ρ own N n0 ρ0 w0 env m a w → K env m → Q .normal a w) :
    ∀ (fuel : Nat) (listed : Array Bool) (ρ : Rho) (a : Act) (w : World), DI all outs E0 m0 own N ρ0 w0 listed ρ a w → wpAny P .any all.toArray Q fuel listed a w ∨ fuel < (listed.toList.countP (· == false)) := by
  have final : ∀ (listed : Array Bool) (ρ : Rho) (a : Act) (w : World), DI all outs E0 m0 own N ρ0 w0 listed ρ a w → Region.ready .any all.toArray listed = [] → Q .normal a w := by
    intro listed ρ a w d hr
    have hall : ∀ i, i < all.length → listed.getD i false = true := by
      intro i hi
      cases hq : listed.getD i false with
      | true => rfl
      | false => exact absurd hr (ready_ne he d.len i hi hq)
    obtain ⟨mf, h1, h2, h3, h4⟩ := hfin
    have e1 : envS all outs E0 (fun i => listed.getD i false) all.length = envS all outs E0 (fun _ => true) all.length := envS_ext _ hall
    have e2 : memS outs m0 (fun i => listed.getD i false) all.length = memS outs m0 (fun _ => true) all.length := memS_ext _ hall
    have e3 : mf.get = (memS outs m0 (fun i => listed.getD i false) all.length).get := by
      funext x k
      rw [e2]
      exact h3 (x, k)
    refine hQ ρ _ mf a w ⟨by rw [← e1]; exact d.env, by rw [e3]; exact d.mem, fun x k hx => d.names x k (by omega) (fun i hi hxi => by omega), by omega, d.ownf, d.size, d.defers, d.base, by rw [h2, ha0], d.kept⟩ h4
  intro fuel
  induction fuel with
  | zero =>
    intro listed ρ a w d
    by_cases hc : listed.toList.countP (· == false) = 0
    · left
      have hr : Region.ready .any all.toArray listed = [] := by
        cases hq : Region.ready .any all.toArray listed with
        | nil => rfl
        | cons x r =>
          have hx : x ∈ Region.ready .any all.toArray listed := by rw [hq]; simp
          obtain ⟨h1, o, h2, _⟩ := mem_ready.1 hx
          have hlt : x < listed.size := by
            rw [d.len]
            have := (Array.getElem?_eq_some_iff.1 h2).1
            simpa using this
          have hfalse : listed[x] = false := by simpa [Array.getD, hlt] using h1
          have hz := List.countP_eq_zero.1 hc listed[x] (by simp)
          rw [hfalse] at hz
          simp at hz
      exact ⟨hr, final listed ρ a w d hr⟩
    · right; omega
  | succ fuel ih =>
    intro listed ρ a w d
    by_cases hcnt : fuel + 1 < listed.toList.countP (· == false)
    · exact .inr hcnt
    · left
      refine ⟨final listed ρ a w d, fun i hi => ?_⟩
      obtain ⟨hun, o', ho', hedges⟩ := mem_ready.1 hi
      have hin : i < all.length := by
        have := (Array.getElem?_eq_some_iff.1 ho').1
        simpa using this
      have hil : i < listed.size := by rw [d.len]; exact hin
      obtain ⟨o, x, mi, ho, hx, hmn, hma, hmg, hst, hcond⟩ := hfacts i hin
      have hoo : o' = o := by
        have : all[i]? = some o' := by simpa using ho'
        rw [ho] at this
        exact (Option.some.inj this).symm
      subst hoo
      have hSi : listed.getD i false = false := by
        simpa [Array.getD, hil] using hun
      have hclosed' : Closed all (fun k => (listed.setIfInBounds i true).getD k false) := by
        intro j oj hj hoj e hem hb
        simp only [getD_set listed i _ hil] at hj ⊢
        split
        · rfl
        · by_cases hji : j = i
          · subst hji
            rw [ho] at hoj
            obtain rfl := Option.some.inj hoj
            exact hedges e (by simpa using hem) hb
          · rw [if_neg hji] at hj
            exact d.closed j oj hj hoj e hem hb
      have hbefore : ∀ k, k ≠ i → ordB all k i = true → listed.getD k false = true := by
        intro k hk ho
        have := hclosed'.ord i k ho (by simp only [getD_set listed i _ hil, if_true])
        simpa only [getD_set listed i _ hil, if_neg hk] using this
      have hafter : ∀ k, ordB all i k = true → listed.getD k false = false := by
        intro k ho
        cases hq : listed.getD k false with
        | false => rfl
        | true =>
          have := d.closed.ord k i ho hq
          rw [hSi] at this
          cases this
      have hslot : ∀ t, (t ∈ looks all o' ∨ o'.dst = some t) → ∀ k, k < all.length → k ≠ i → dstA all k = some t → listed.getD k false = decide (k < i) := by
        intro t ht k hk hki hdk
        unfold dstA at hdk
        cases hok : all[k]? with
        | none => simp [hok] at hdk
        | some ok =>
          simp only [hok, Option.bind_some] at hdk
          have := slotsOk_spec hs hok ho hki hdk ht
          split at this
          · rename_i hlt; rw [hbefore k hki this]; simp [hlt]
          · rename_i hlt; rw [hafter k this]; simp [hlt]
      have hmemc : ∀ p, (p ∈ x.2.2 ∨ p ∈ idsU x.2.1) → ∀ k, k < all.length → k ≠ i → p ∈ idsU (outU outs k) → listed.getD k false = decide (k < i) := by
        intro p hp k hk hki hpk
        obtain ⟨ok, xk, mk, hok, hxk, _, _, _, _, hck⟩ := hfacts k hk
        have hu : outU outs k = xk.2.1 := by simp [outU, hxk]
        rw [hu] at hpk
        by_cases hlt : k < i
        · have hc := hcond k xk hlt hxk
          unfold Cond at hc
          have hf : (disj (idsU xk.2.1) x.2.2 && disj (idsU xk.2.1) (idsU x.2.1) && disj xk.2.2 (idsU x.2.1)) = false := by
            rcases hp with hp | hp
            · simp [disj_false hpk hp]
            · simp [disj_false hpk hp]
          rw [hf] at hc
          rw [hbefore k hki (by simpa using hc)]
          simp [hlt]
        · have hc := hck i x (by omega) hx
          unfold Cond at hc
          have hf : (disj (idsU x.2.1) xk.2.2 && disj (idsU x.2.1) (idsU xk.2.1) && disj x.2.2 (idsU xk.2.1)) = false := by
            rcases hp with hp | hp
            · simp [disj_false hp hpk]
            · simp [disj_false hp hpk]
          rw [hf] at hc
          rw [hafter k (by simpa using hc)]
          simp [hlt]
      -- the state of the text at i
      have etext : ∀ t, lk (envS all outs E0 (fun _ => true) i) t = lk (envS all outs E0 (fun k => decide (k < i)) all.length) t := by
        intro t
        rw [envS_ext (S' := fun k => decide (k < i)) i (fun k hk => by simp [hk])]
        obtain ⟨d', hd'⟩ : ∃ d', all.length = i + d' := ⟨all.length - i, by omega⟩
        rw [hd', envS_stop d' (fun k h1 h2 => by simp; omega)]
      have mtext : ∀ p : Id, (memS outs m0 (fun _ => true) i).get p.1 p.2 = (memS outs m0 (fun k => decide (k < i)) all.length).get p.1 p.2 := by
        intro p
        rw [memS_ext (S' := fun k => decide (k < i)) i (fun k hk => by simp [hk])]
        obtain ⟨d', hd'⟩ : ∃ d', all.length = i + d' := ⟨all.length - i, by omega⟩
        rw [hd', memS_stop d' (fun k h1 h2 => by simp; omega)]
      have hagree : ∀ t, t ∈ looks all o' → lk (envS all outs E0 (fun k => listed.getD k false) all.length) t = lk (envS all outs E0 (fun _ => true) i) t := by
        intro t ht
        rw [etext]
        refine envS_congr _ fun k hk hdk => ?_
        by_cases hki : k = i
        · subst hki; simp only [hSi]; simp
        · exact hslot t (.inl ht) k hk hki hdk
      let mL : Mem := { memS outs m0 (fun k => listed.getD k false) all.length with next := m0.next + i }
      have hmL : ∀ p : Id, (p ∈ x.2.2 ∨ p ∈ idsU x.2.1) → mL.get p.1 p.2 = mi.get p.1 p.2 := by
        intro p hp
        rw [hmg, mtext]
        show (memS outs m0 (fun k => listed.getD k false) all.length).get p.1 p.2 = _
        refine memS_congr _ fun k hk hpk => ?_
        by_cases hki : k = i
        · subst hki; simp only [hSi]; simp
        · exact hmemc p hp k hk hki hpk
      have hdst : ∀ dd, o'.dst = some dd → dd < N := by
        intro dd hdd
        unfold dstsOk at hd
        have := List.all_eq_true.1 hd o' (List.mem_of_getElem? ho)
        rw [hdd] at this
        simpa using this
      have hfresh : ∀ k, ρ (m0.next + i) k = none := by
        intro k
        refine d.names _ k (by omega) (fun j hj hxj => ?_)
        have : j = i := by omega
        rw [this]
        exact hSi
      have hctx : Ctx ρ own (envS all outs E0 (fun k => listed.getD k false) all.length) mL a w :=
        ⟨d.env, d.mem, hfresh, by show m0.next + i ≠ 0; omega, d.ownf⟩
      -- behind the operation
      have next : ∀ val w' ρ', (∀ y ∈ x.2.1, y.1.1 = 0 → y.1.2 < mL.args.length) → After ρ own mL x.2.1 x.1 w val w' ρ' → wpAny P .any all.toArray Q fuel (listed.setIfInBounds i true) (a.put o'.dst val) w' := by
        intro val w' ρ' hup h
        have hcnt' : (listed.setIfInBounds i true).toList.countP (· == false) = listed.toList.countP (· == false) - 1 := by
          rw [Array.toList_setIfInBounds, List.countP_set]
          · have h5 : listed.toList[i]'(by simpa using hil) = false := by simpa [Array.getD, hil] using hun
            rw [h5]
            simp
          · simpa using hil
        have hpos : 0 < listed.toList.countP (· == false) := by
          refine List.countP_pos_iff.2 ⟨false, ?_, by simp⟩
          have : listed[i] = false := by simpa [Array.getD, hil] using hun
          rw [← this]
          simp
        refine (ih (listed.setIfInBounds i true) ρ' (a.put o'.dst val) w' ?_).resolve_right (by omega)
        refine ⟨by simpa using d.len, hclosed', ?_, ?_, fun y k hy hfree => ?_, fun b hb => d.ownf b (Nat.le_trans h.kept.grows hb), by rw [put_size]; exact d.size, by rw [put_defers]; exact d.defers, fun k => ?_, d.kept.trans h.kept⟩
        · have hput : RelE ρ' (setD (envS all outs E0 (fun k => listed.getD k false) all.length) o'.dst x.1) (a.put o'.dst val) :=
            d.env.put h.le (fun dd hdd => by rw [d.size]; exact hdst dd hdd) h.val
          intro t
          have : lk (envS all outs E0 (fun k => (listed.setIfInBounds i true).getD k false) all.length) t = lk (setD (envS all outs E0 (fun k => listed.getD k false) all.length) o'.dst x.1) t := by
            rw [lk_setD]
            by_cases hdt : o'.dst = some t
            · rw [if_pos hdt]
              rw [envS_congr (S' := fun k => decide (k < i + 1)) all.length (fun k hk hdk => by
                simp only [getD_set listed i k hil]
                by_cases hki : k = i
                · subst hki; simp
                · rw [if_neg hki, hslot t (.inr hdt) k hk hki hdk]
                  have : (k < i) ↔ (k < i + 1) := by omega
                  simp [this])]
              obtain ⟨d', hd'⟩ : ∃ d', all.length = i + 1 + d' := ⟨all.length - (i + 1), by omega⟩
              rw [hd', envS_stop d' (fun k h1 h2 => by simp; omega)]
              simp only [envS]
              rw [if_pos (by simp)]
              have hda : dstA all i = some t := by simp [dstA, ho, hdt]
              rw [lk_setD, if_pos hda]
              simp [outV, hx]
            · rw [if_neg hdt]
              refine envS_congr _ fun k hk hdk => ?_
              simp only [getD_set listed i k hil]
              rw [if_neg]
              rintro rfl
              apply hdt
              simpa [dstA, ho] using hdk
          rw [this]
          exact hput t
        · have hge : (memS outs m0 (fun k => (listed.setIfInBounds i true).getD k false) all.length).get = fupds mL.get x.2.1 := by
            rw [← Mem.get_upd _ _ hup]
            funext b k
            have key : ∀ p : Id, (memS outs m0 (fun k => (listed.setIfInBounds i true).getD k false) all.length).get p.1 p.2 = (mL.upd x.2.1).get p.1 p.2 := by
              intro p
              by_cases hp : p ∈ idsU x.2.1
              · rw [memS_congr (S' := fun k => decide (k < i + 1)) all.length (fun k hk hpk => by
                  simp only [getD_set listed i k hil]
                  by_cases hki : k = i
                  · subst hki; simp
                  · rw [if_neg hki, hmemc p (.inr hp) k hk hki hpk]
                    have : (k < i) ↔ (k < i + 1) := by omega
                    simp [this])]
                obtain ⟨d', hd'⟩ : ∃ d', all.length = i + 1 + d' := ⟨all.length - (i + 1), by omega⟩
                rw [hd', memS_stop d' (fun k h1 h2 => by simp; omega)]
                simp only [memS]
                rw [if_pos (by simp)]
                have hu : outU outs i = x.2.1 := by simp [outU, hx]
                rw [hu]
                exact upd_get_same _ _ _ _ (by rw [memS_args]; exact (memS_args _).symm) (.inl hp)
              · rw [upd_get_ne _ _ _ hp]
                show _ = (memS outs m0 (fun k => listed.getD k false) all.length).get p.1 p.2
                refine memS_congr _ fun k hk hpk => ?_
                simp only [getD_set listed i k hil]
                rw [if_neg]
                rintro rfl
                apply hp
                simpa [outU, hx] using hpk
            exact key (b, k)
          rw [hge]
          exact h.mem
        · have hyi : y ≠ m0.next + i := by
            intro e
            have := hfree i hin e
            rw [getD_set listed i i hil, if_pos rfl] at this
            cases this
          rw [h.only y k hyi]
          refine d.names y k hy fun j hj hyj => ?_
          have := hfree j hj hyj
          rw [getD_set listed i j hil] at this
          split at this
          · cases this
          · exact this
        · rw [h.only 0 k (by show 0 ≠ m0.next + i; omega)]
          exact d.base k
      have hout : Out P o'.op (envS all outs E0 (fun _ => true) i) mi x.1 x.2.1 x.2.2 → o'.wp P a w (wpAny P .any all.toArray Q fuel (listed.setIfInBounds i true)) Q := by
        intro h
        have h2 := Out_mem (m' := mL) hmL (by show m0.next + i = mi.next; rw [hmn]) h
        have h3 := Out_env (env' := envS all outs E0 (fun k => listed.getD k false) all.length) (fun t ht => hagree t (by
          unfold looks
          exact List.mem_append_left _ (List.mem_filterMap.2 ⟨.tmp t, by simpa using ht, rfl⟩))) h2
        refine aop_sound hctx h3.aop _ _ fun v ups rd val w' ρ' hX hup hA => ?_
        obtain ⟨rfl, rfl, rfl⟩ := hX
        exact next val w' ρ' hup hA
      unfold wpOp
      rw [ho']
      simp only
      unfold Stepped at hst
      cases hg : o'.guard with
      | none =>
        rw [hg] at hst
        rw [if_pos (by simp [Region.wanted, hg])]
        exact .inl (hout hst)
      | some gw =>
        obtain ⟨g, want⟩ := gw
        rw [hg] at hst
        obtain ⟨t, h1, h2⟩ := hst
        have hl : t ∈ looks all o' := by
          unfold looks
          rw [hg]
          exact List.mem_append_right _ (by simp [h1])
        rcases h2 with ⟨b, h2, h3⟩ | ⟨h2, h3⟩
        · have hy := yielded_of d.env h1 (x := b) (by rw [hagree t hl]; exact h2)
          by_cases hc : b = want
          · rw [if_pos hc] at h3
            rw [if_pos (by simp [Region.wanted, hg, hy, hc])]
            exact .inl (hout h3)
          · rw [if_neg hc] at h3
            rw [if_neg (by simp [Region.wanted, hg, hy, hc])]
            subst h3
            exact next undef w ρ (by simp) ⟨Le.refl ρ, fun _ _ _ => rfl, by simp [RelV, RelVs, undef], d.mem, Kept.refl own w⟩
        · have hy := yielded_none d.env h1 (by rw [hagree t hl]; exact h2)
          rw [if_neg (by simp [Region.wanted, hg, hy])]
          subst h3
          exact next undef w ρ (by simp) ⟨Le.refl ρ, fun _ _ _ => rfl, by simp [RelV, RelVs, undef], d.mem, Kept.refl own w⟩

theorem aops_draw {Q : Exit → Act → World → Prop} {all : List Oper} {K : Env → Mem → Prop} {ρ : Rho} {env : Env} {m : Mem} {a : Act} {w : World} (hd : dstsOk N all = true) (hs : slotsOk all = true) (he : edgesOk all = true)
    (hQ : ∀ ρ env m a w, St ρ own N n0 ρ0 w0 env m a w → K env m → Q .normal a w) (s : St ρ own N n0 ρ0 w0 env m a w) (hk : aops P true all all 0 [] env m K) :
    wpAny P .any all.toArray Q all.toArray.size (Array.replicate all.toArray.size false) a w := by
  obtain ⟨outs, _, hlen, hdf⟩ := drun all [] env m [] (fun j wr rd _ i y hy => by simp at hy) (by simpa using hk)
  have hf := DF_facts (m0 := m) (E0 := env) (outs := outs) all 0 m (fun k o h => by simpa using h) (by simp) rfl (fun p => rfl) (show DF P all K all 0 outs env m by simpa using hdf)
  obtain ⟨hfin, hfacts⟩ := hf
  simp only [Nat.zero_add] at hfin hfacts
  have hstart : ∀ i, (Array.replicate all.toArray.size false).getD i false = false := by
    intro i
    simp only [Array.getD_eq_getD_getElem?, Array.getElem?_replicate]
    split <;> rfl
  have hS : (fun i => (Array.replicate all.toArray.size false).getD i false) = fun _ => false := funext hstart
  have henv : envS all outs env (fun _ => false) all.length = env := by
    have : ∀ k, envS all outs env (fun _ => false) k = env := by
      intro k
      induction k with
      | zero => rfl
      | succ k ih => simp [envS, ih]
    exact this _
  have hmem : memS outs m (fun _ => false) all.length = m := by
    have : ∀ k, memS outs m (fun _ => false) k = m := by
      intro k
      induction k with
      | zero => rfl
      | succ k ih => simp [memS, ih]
    exact this _
  have hdi : DI all outs env m own N ρ0 w0 (Array.replicate all.toArray.size false) ρ a w := by
    refine ⟨by simp, ?_, ?_, ?_, fun x k hx _ => s.fresh x k hx, s.ownf, s.size, s.defers, s.base, s.kept⟩
    · intro j o hj
      have hj' : (Array.replicate all.toArray.size false).getD j false = true := hj
      rw [hstart] at hj'
      cases hj'
    · rw [hS, henv]; exact s.env
    · rw [hS, hmem]; exact s.mem
  refine (draw_any hd hs he s.nz s.args hfin (fun i hi => hfacts i (Nat.zero_le _) hi) hQ _ _ ρ a w hdi).resolve_right ?_
  have : (Array.replicate all.toArray.size false).toList.countP (· == false) ≤ all.toArray.size := by
    refine Nat.le_trans List.countP_le_length ?_
    simp
  omega
end
end Go.Abs

/-
Bodies and whole functions: the abstract walk is sound.
-/
namespace Go.Abs
open Go
set_option linter.unusedVariables false
set_option linter.unusedSectionVars false
set_option linter.unusedSimpArgs false
set_option linter.defProp false

theorem invTo : ∀ {σ : List (Id × Id)} {a k : Nat} {q : Id}, (∀ x ∈ σ, x.1.1 ≠ 0) → renTo σ a k = some q → (a = 0 ∧ q = (0, k)) ∨ (a ≠ 0 ∧ ((a, k), q) ∈ σ)
  | [], a, k, q, _, h => by
    simp only [renTo] at h
    split at h
    · simp at h; rename_i h0; exact .inl ⟨h0, h.symm⟩
    · cases h
  | (p, q') :: r, a, k, q, hz, h => by
    simp only [renTo] at h
    split at h
    · simp at h; rename_i h0; exact .inl ⟨h0, h.symm⟩
    · rename_i h0
      split at h
      · rename_i hc
        simp at h
        subst h
        exact .inr ⟨h0, by obtain ⟨e1, e2⟩ := hc; rw [← e1, ← e2]; simp⟩
      · rcases invTo (fun x hx => hz x (by simp [hx])) h with h | ⟨h1, h2⟩
        · exact absurd h.1 h0
        · exact .inr ⟨h1, by simp [h2]⟩

/-- Where a new name comes from. -/
def fromTo (σ : List (Id × Id)) (a k : Nat) : Option Id :=
  match σ with
  | [] => none
  | (p, q) :: r => if q.1 = a ∧ q.2 = k then some p else fromTo r a k

theorem fromTo_mem : ∀ {σ : List (Id × Id)} {a k : Nat} {p : Id}, fromTo σ a k = some p → (p, (a, k)) ∈ σ
  | [], _, _, _, h => by simp [fromTo] at h
  | (p', q) :: r, a, k, p, h => by
    simp only [fromTo] at h
    split at h
    · rename_i hc
      simp at h
      subst h
      obtain ⟨e1, e2⟩ := hc
      rw [← e1, ← e2]; simp
    · exact List.mem_cons_of_mem _ (fromTo_mem h)

theorem fromTo_of_mem : ∀ {σ : List (Id × Id)} {a k : Nat} {p : Id}, (σ.map (·.2)).Nodup → (p, (a, k)) ∈ σ → fromTo σ a k = some p
  | [], _, _, _, _, h => by cases h
  | (p', q) :: r, a, k, p, hn, h => by
    simp only [List.map_cons, List.nodup_cons] at hn
    simp only [fromTo]
    rcases List.mem_cons.1 h with h | h
    · simp only [Prod.mk.injEq] at h
      obtain ⟨rfl, rfl⟩ := h
      simp
    · rw [if_neg]
      · exact fromTo_of_mem hn.2 h
      · rintro ⟨e1, e2⟩
        exact hn.1 (List.mem_map.2 ⟨_, h, Prod.ext e1.symm e2.symm⟩)

theorem wkLoc_get (m : Mem) (τ : Ren) : ∀ (σ : List (Id × Id)) (a k : Nat), assoc (wkLoc m τ σ) a k = match fromTo σ a k with | some p => renBlk τ (m.get p.1 p.2) | none => .dead
  | [], _, _ => rfl
  | (p, q) :: r, a, k => by
    simp only [wkLoc, assoc, fromTo]
    split
    · rfl
    · exact wkLoc_get m τ r a k

theorem least {p : Nat → Prop} (h : ∃ n, p n) : ∃ n, p n ∧ ∀ k, p k → n ≤ k := by
  obtain ⟨n, hn⟩ := h
  induction n using Nat.strongRecOn with
  | _ n ih =>
    by_cases hex : ∃ k, k < n ∧ p k
    · obtain ⟨k, hk, hp⟩ := hex
      exact ih k hk hp
    · refine ⟨n, hn, fun k hk => ?_⟩
      rcases Nat.lt_or_ge k n with h | h
      · exact absurd ⟨k, h, hk⟩ hex
      · exact h

section
variable {P : Program} {own : Nat → Prop} {N n0 : Nat} {ρ0 : Rho} {w0 : World}

theorem lk_mem : ∀ {env : Env} {t : Nat}, lk env t = .top ∨ (t, lk env t) ∈ env
  | [], _ => .inl rfl
  | (u, v) :: r, t => by
    simp only [lk]
    split
    · rename_i h; subst h; exact .inr (by simp)
    · rcases lk_mem (env := r) (t := t) with h | h
      · exact .inl h
      · exact .inr (by simp [h])

theorem wkEnv_mem {σ : List (Id × Id)} {env : Env} : ∀ {env2 : Env}, wkEnv σ env env2 → ∀ x ∈ env2, x.2 = renV (renTo σ) (lk env x.1)
  | [], _, x, h => by cases h
  | (t, v) :: r, ⟨h1, h2⟩, x, h => by
    rcases List.mem_cons.1 h with rfl | h
    · exact h1
    · exact wkEnv_mem h2 x h

theorem weak_sound {ρ : Rho} {env env2 : Env} {m m2 : Mem} {a : Act} {w : World} (s : St ρ own N n0 ρ0 w0 env m a w) (h : Weak env m env2 m2) : ∃ ρ', St ρ' own N n0 ρ0 w0 env2 m2 a w := by
  obtain ⟨σ, hok, henv, hm⟩ := h
  simp only [wkOk, Bool.and_eq_true, List.all_eq_true, bne_iff_ne, ne_eq, decide_eq_true_eq] at hok
  obtain ⟨⟨⟨hall, hn1⟩, hn2⟩, hpos⟩ := hok
  have hz1 : ∀ x ∈ σ, x.1.1 ≠ 0 := fun x hx => (hall x hx).1.1
  have hz2 : ∀ x ∈ σ, x.2.1 ≠ 0 := fun x hx => (hall x hx).1.2
  have hlt : ∀ x ∈ σ, x.2.1 < m2.next := fun x hx => (hall x hx).2
  let ρ' : Rho := fun a k => if a = 0 then ρ 0 k else (fromTo σ a k).bind fun p => ρ p.1 p.2
  have hto : (renTo σ).To ρ ρ' := by
    intro a' k q p h1 h2
    rcases invTo hz1 h1 with ⟨rfl, rfl⟩ | ⟨hne, hmem⟩
    · simp [ρ', h2]
    · have hq := hz2 _ hmem
      simp only at hq
      simp only [ρ']
      rw [if_neg hq, fromTo_of_mem hn2 hmem]
      exact h2
  have hget : ∀ a' k, m2.get a' k = if a' = 0 then renBlk (renTo σ) (m.get 0 k) else match fromTo σ a' k with | some p => renBlk (renTo σ) (m.get p.1 p.2) | none => .dead := by
    intro a' k
    rw [hm]
    by_cases h0 : a' = 0
    · subst h0
      simp only [Mem.get, wkMem, if_true, List.getD_eq_getElem?_getD, List.getElem?_map]
      cases m.args[k]? <;> rfl
    · simp only [Mem.get, wkMem, if_neg h0]
      exact wkLoc_get m _ σ a' k
  have live : ∀ a' k rw_ gs, m2.get a' k = .lv rw_ gs → ∃ (p : Id) (gs0 : Segs), m.get p.1 p.2 = .lv rw_ gs0 ∧ gs = renSegs (renTo σ) gs0 ∧ ρ' a' k = ρ p.1 p.2 ∧ ((a' = 0 ∧ p = (0, k)) ∨ (a' ≠ 0 ∧ (p, (a', k)) ∈ σ)) := by
    intro a' k rw_ gs hg
    rw [hget] at hg
    split at hg
    · rename_i h0
      obtain ⟨gs0, h1, h2⟩ := renBlk_live hg
      exact ⟨(0, k), gs0, h1, h2, by simp [ρ', h0], .inl ⟨h0, rfl⟩⟩
    · rename_i h0
      split at hg
      · rename_i p hp
        obtain ⟨gs0, h1, h2⟩ := renBlk_live hg
        exact ⟨p, gs0, h1, h2, by simp [ρ', h0, hp], .inr ⟨h0, fromTo_mem hp⟩⟩
      · cases hg
  refine ⟨ρ', ?_, ⟨fun a' k rw_ gs hg => ?_, fun a1 k1 a2 k2 g1 g2 p1 p2 x1 x2 y1 y2 e => ?_, fun a' k p hp => ?_, fun a' k rw_ gs ha hg => ?_⟩, fun x k hx => ?_, hpos, s.ownf, s.size, s.defers, fun k => by simp [ρ', s.base], ?_, s.kept⟩
  · intro t
    rcases lk_mem (env := env2) (t := t) with h | h
    · rw [h]; simp [RelV]
    · have := wkEnv_mem henv _ h
      simp only at this
      rw [this]
      exact RelV.ren hto (s.env t)
  · obtain ⟨p, gs0, h1, rfl, h3, _⟩ := live a' k rw_ gs hg
    obtain ⟨q, fz, e1, e2, e3, e4⟩ := s.mem.holds _ _ _ _ h1
    exact ⟨q, fz, by rw [h3]; exact e1, e2.ren hto, e3, e4⟩
  · obtain ⟨q1, gs1, h1, _, h3, h4⟩ := live a1 k1 true g1 x1
    obtain ⟨q2, gs2, h1', _, h3', h4'⟩ := live a2 k2 true g2 x2
    rw [h3] at y1
    rw [h3'] at y2
    have hq := s.mem.apart _ _ _ _ _ _ _ _ h1 h1' y1 y2 e
    have hq' : q1 = q2 := Prod.ext hq.1 hq.2
    subst hq'
    rcases h4 with ⟨rfl, rfl⟩ | ⟨hne, hmem⟩
    · rcases h4' with ⟨rfl, h5⟩ | ⟨hne', hmem'⟩
      · simp at h5; exact ⟨rfl, h5⟩
      · exact absurd rfl (hz1 _ hmem')
    · rcases h4' with ⟨rfl, rfl⟩ | ⟨hne', hmem'⟩
      · exact absurd rfl (hz1 _ hmem)
      · have : ∀ {σ : List (Id × Id)} {p q q' : Id}, (σ.map (·.1)).Nodup → (p, q) ∈ σ → (p, q') ∈ σ → q = q' := by
          intro σ
          induction σ with
          | nil => intro p q q' _ h; cases h
          | cons x r ih =>
            intro p q q' hn h h'
            simp only [List.map_cons, List.nodup_cons] at hn
            rcases List.mem_cons.1 h with h | h <;> rcases List.mem_cons.1 h' with h' | h'
            · rw [← h'] at h; exact (Prod.mk.inj h).2
            · exact absurd (List.mem_map.2 ⟨_, h', by rw [← h]⟩) hn.1
            · exact absurd (List.mem_map.2 ⟨_, h, by rw [← h']⟩) hn.1
            · exact ih hn.2 h h'
        have := this hn1 hmem hmem'
        simp at this
        exact this
  · simp only [ρ'] at hp
    split at hp
    · exact s.mem.there _ _ _ hp
    · cases hf : fromTo σ a' k with
      | none => simp [hf] at hp
      | some q => simp [hf] at hp; exact s.mem.there _ _ _ hp
  · obtain ⟨p, gs0, h1, _, _, h4⟩ := live a' k rw_ gs hg
    rcases h4 with ⟨h0, _⟩ | ⟨_, hmem⟩
    · exact absurd h0 ha
    · exact s.mem.rws _ _ _ _ (hz1 _ hmem) h1
  · simp only [ρ']
    have hx0 : x ≠ 0 := by omega
    rw [if_neg hx0]
    cases hf : fromTo σ x k with
    | none => rfl
    | some q =>
      have := hlt _ (fromTo_mem hf)
      simp only at this
      omega
  · rw [hm]; simp [wkMem, s.args]

theorem awp_sound (hmix : P.follows .mixedOrders = true) : ∀ (c : Code) (ρ : Rho) (env : Env) (m : Mem) (a : Act) (w : World) (K : Exit → Env → Mem → Prop) (Q : Exit → Act → World → Prop), codeOk N c = true →
    (∀ x ρ env m a w, St ρ own N n0 ρ0 w0 env m a w → K x env m → Q x a w) → St ρ own N n0 ρ0 w0 env m a w → awp P c env m K → c.wp P Q a w := by
  intro c
  induction c with
  | skip => intro ρ env m a w K Q _ hQ s hk; exact wp_skip (hQ _ _ _ _ _ _ s hk)
  | region id ops draw =>
    intro ρ env m a w K Q hok hQ s hk
    simp only [codeOk, Bool.and_eq_true] at hok
    simp only [awp] at hk
    cases draw with
    | false =>
      have := aops_seq (Q := Q) (fun ρ env m a w s hk => hQ _ _ _ _ _ _ s hk) ops.toList 0 [] ρ env m a w s hok.1 hk
      exact wp_region_list (by simpa using this)
    | true =>
      have h2 : slotsOk ops.toList = true ∧ edgesOk ops.toList = true := by simpa using hok.2
      have s' : St ρ own N n0 ρ0 w0 env m a { w with drawn := w.drawn + 1 } :=
        ⟨s.env, s.mem.world rfl, s.fresh, s.nz, s.ownf, s.size, s.defers, s.base, s.args, s.kept.trans (Kept.draw own w _)⟩
      have := aops_draw (Q := Q) (all := ops.toList) hok.1 h2.1 h2.2 (fun ρ env m a w s hk => hQ _ _ _ _ _ _ s hk) s' hk
      exact wp_region_any hmix (by simpa using this)
  | seq x y ihx ihy =>
    intro ρ env m a w K Q hok hQ s hk
    simp only [codeOk, Bool.and_eq_true] at hok
    simp only [awp] at hk
    refine wp_seq (ihx ρ env m a w _ _ hok.1 ?_ s hk)
    intro e ρ env m a w s hk
    cases e with
    | normal => exact ihy ρ env m a w K Q hok.2 hQ s hk
    | exit id => exact hQ _ _ _ _ _ _ s hk
    | goto l => exact hQ _ _ _ _ _ _ s hk
    | ret => exact hQ _ _ _ _ _ _ s hk
    | panic ch => exact hQ _ _ _ _ _ _ s hk
    | outgrown => exact hQ _ _ _ _ _ _ s hk
  | cond c' x y ihx ihy =>
    intro ρ env m a w K Q hok hQ s hk
    simp only [codeOk, Bool.and_eq_true] at hok
    simp only [awp] at hk
    split at hk
    · rename_i b e
      have hv := aev_sound s.env c'
      rw [e] at hv
      simp only [RelV] at hv
      cases b with
      | true => exact wp_cond_true hv (ihx ρ env m a w K Q hok.1 hQ s (by simpa using hk))
      | false => exact wp_cond_false hv (ihy ρ env m a w K Q hok.2 hQ s (by simpa using hk))
    · exact hk.elim
  | block id body ih =>
    intro ρ env m a w K Q hok hQ s hk
    simp only [codeOk] at hok
    simp only [awp] at hk
    refine wp_block (ih ρ env m a w _ _ hok ?_ s hk)
    intro e ρ env m a w s hk
    cases e with
    | normal => exact hQ _ _ _ _ _ _ s hk
    | exit j =>
      simp only [Exit.inBlock]
      simp only at hk
      split at hk
      · rename_i hc; rw [if_pos hc]; exact hQ _ _ _ _ _ _ s hk
      · rename_i hc; rw [if_neg hc]; exact hQ _ _ _ _ _ _ s hk
    | goto l => exact hQ _ _ _ _ _ _ s hk
    | ret => exact hQ _ _ _ _ _ _ s hk
    | panic ch => exact hQ _ _ _ _ _ _ s hk
    | outgrown => exact hQ _ _ _ _ _ _ s hk
  | loop body ih =>
    intro ρ env m a w K Q hok hQ s hk
    simp only [codeOk] at hok
    simp only [awp] at hk
    obtain ⟨I, ⟨n, env2, m2, hw, hi⟩, hround⟩ := hk
    let J : Act → World → Nat → Prop := fun a w n => ∃ ρ env m, St ρ own N n0 ρ0 w0 env m a w ∧ I n env m
    have hJ : ∃ n, J a w n := by
      obtain ⟨ρ', s'⟩ := weak_sound s hw
      exact ⟨n, ρ', env2, m2, s', hi⟩
    classical
    refine wp_loop (fun a w => ∃ n, J a w n) (fun a w => if h : ∃ n, J a w n then Classical.choose (least h) else 0) hJ ?_
    intro a' w' hex
    obtain ⟨⟨ρ1, env1, m1, s1, hi1⟩, hmin⟩ := Classical.choose_spec (least hex)
    refine ih ρ1 env1 m1 a' w' _ _ hok ?_ s1 (hround _ env1 m1 hi1)
    intro e ρ env m a w s hk
    cases e with
    | normal =>
      obtain ⟨n', env3, m3, hlt, hw', hi'⟩ := hk
      obtain ⟨ρ', s'⟩ := weak_sound s hw'
      have hJ' : ∃ n, J a w n := ⟨n', ρ', env3, m3, s', hi'⟩
      refine ⟨hJ', ?_⟩
      rw [dif_pos hJ', dif_pos hex]
      exact Nat.lt_of_le_of_lt ((Classical.choose_spec (least hJ')).2 _ ⟨ρ', env3, m3, s', hi'⟩) hlt
    | exit id => exact hQ _ _ _ _ _ _ s hk
    | goto l => exact hQ _ _ _ _ _ _ s hk
    | ret => exact hQ _ _ _ _ _ _ s hk
    | panic ch => exact hQ _ _ _ _ _ _ s hk
    | outgrown => exact hQ _ _ _ _ _ _ s hk
  | exit id => intro ρ env m a w K Q _ hQ s hk; exact wp_exit (hQ _ _ _ _ _ _ s hk)
  | ret => intro ρ env m a w K Q _ hQ s hk; exact wp_ret (hQ _ _ _ _ _ _ s hk)
  | _ => intro ρ env m a w K Q _ hQ s hk; simp only [awp] at hk

/-! ### results, and a whole function -/

def resSem (tmps : Array Value) (r : ResultVar) : Sem Value :=
  match r with
  | .tmp t => pure (tmps.getD t undef)
  | .cell t ty => do loadVar ty (← asAddr (tmps.getD t undef))

theorem results_eq (fn : Func) (tmps : Array Value) : results fn tmps = (do
    let vs ← fn.results.mapM (resSem tmps)
    pure (if h : vs.size = 1 then vs[0] else .tuple vs)) := by
  unfold results
  congr 2

theorem ares_sound {ρ : Rho} {env : Env} {m : Mem} {a : Act} {w : World} {r : ResultVar} {K : AV → Prop} (s : St ρ own N n0 ρ0 w0 env m a w) (h : ares P env m K r) :
    ∃ v val, K v ∧ RelV ρ v val ∧ (resSem a.tmps r).run P w = .ok val w := by
  cases r with
  | tmp t => exact ⟨_, _, h, s.env t, rfl⟩
  | cell t ty =>
    simp only [ares] at h
    obtain ⟨v, rd, h1, _, ad, val, h2, h3, h4⟩ := ok_load (P := P) (o := { dst := none, op := .load ty (.tmp t), type := ty, pos := "", after := #[], guard := none }) s.ctx rfl h
    refine ⟨v, val, h1, h4, ?_⟩
    have h2' : a.tmps.getD t undef = .pointer (some ad) := h2
    simp only [resSem, h2', asAddr, Sem.run_bind, Sem.run_pure, Result.andThen_ok, h3]

theorem aress_sound {ρ : Rho} {env : Env} {m : Mem} {a : Act} {w : World} (s : St ρ own N n0 ρ0 w0 env m a w) : ∀ {rs : List ResultVar} {K : List AV → Prop}, aress P env m rs K →
    ∃ vs vals, K vs ∧ RelVs ρ vs vals ∧ vals.length = rs.length ∧ (rs.mapM (resSem a.tmps) : Sem (List Value)).run P w = .ok vals w
  | [], K, h => ⟨[], [], h, by simp [RelVs], rfl, rfl⟩
  | r :: rs, K, h => by
    simp only [aress] at h
    obtain ⟨v, val, h1, h2, h3⟩ := ares_sound s h
    obtain ⟨vs, vals, h4, h5, h6, h7⟩ := aress_sound s h1
    refine ⟨v :: vs, val :: vals, h4, by simp only [RelVs]; exact ⟨val, vals, rfl, h2, h5⟩, by simp [h6], ?_⟩
    simp only [List.mapM_cons, Sem.run_bind, h3, Result.andThen_ok, h7, Sem.run_pure]

theorem results_sound {fn : Func} {ρ : Rho} {env : Env} {m : Mem} {a : Act} {w : World} {K : List AV → Prop} (s : St ρ own N n0 ρ0 w0 env m a w) (h : aress P env m fn.results.toList K) :
    ∃ vs val, K vs ∧ RelV ρ (tupOf vs) val ∧ (results fn a.tmps).run P w = .ok val w := by
  obtain ⟨vs, vals, h1, h2, h3, h4⟩ := aress_sound s h
  have hrun : (results fn a.tmps).run P w = .ok (if h : vals.toArray.size = 1 then vals.toArray[0] else .tuple vals.toArray) w := by
    rw [results_eq, Array.mapM_eq_mapM_toList]
    simp [h4]
  refine ⟨vs, _, h1, ?_, hrun⟩
  cases vs with
  | nil => simp only [RelVs] at h2; subst h2; simp only [tupOf]; simp [RelV, RelVs]
  | cons v r =>
    simp only [RelVs] at h2
    obtain ⟨u, l', rfl, h5, h6⟩ := h2
    cases r with
    | nil => simp only [RelVs] at h6; subst h6; simpa [tupOf] using h5
    | cons v' r' =>
      simp only [RelVs] at h6
      obtain ⟨u', l2, rfl, h7, h8⟩ := h6
      simp only [tupOf, List.size_toArray, List.length_cons]
      rw [dif_neg (by omega)]
      simp only [RelV, RelVs]
      exact ⟨_, rfl, u, _, rfl, h5, u', l2, rfl, h7, h8⟩

theorem params_rel {ρ : Rho} : ∀ {vs : List AV} {vals : List Value} (pre : List Value) (post : List Value), RelVs ρ vs vals → ∀ t, RelV ρ (lk (params pre.length vs) t) ((pre ++ vals ++ post).getD t undef)
  | [], vals, pre, post, h, t => by simp [params, lk, RelV]
  | v :: r, vals, pre, post, h, t => by
    simp only [RelVs] at h
    obtain ⟨u, l', rfl, h1, h2⟩ := h
    simp only [params, lk]
    split
    · rename_i ht
      subst ht
      simpa using h1
    · have := params_rel (pre ++ [u]) post h2 t
      simpa using this

theorem fin_sound {R : AV → List Blk → List Blk → Prop} {ρ : Rho} {m : Mem} {w : World} {r : AV} {val : Value} (hM : MemRel ρ own m.get w) (hr : RelV ρ r val) (h : Fin R m r) :
    ∃ r' as ns ρ', R r' as ns ∧ as.length = m.args.length ∧ RelV ρ' r' val ∧ MemRel ρ' own (getOut as ns) w ∧ (∀ k, ρ' 0 k = ρ 0 k) ∧ (∀ a k, 2 ≤ a → ρ' a k = none) := by
  obtain ⟨keep, hnd, hz, hR⟩ := h
  let ρ' : Rho := fun a k => if a = 0 then ρ 0 k else if a = 1 then (keep[k]?).bind fun p => ρ p.1 p.2 else none
  have hto : (renFin keep).To ρ ρ' := by
    intro a' k q p h1 h2
    simp only [renFin] at h1
    split at h1
    · rename_i h0; subst h0; simp at h1; subst h1; simp [ρ', h2]
    · cases hi : idx keep a' k with
      | none => simp [hi] at h1
      | some j => simp [hi] at h1; subst h1; simp [ρ', idx_lt hi, h2]
  have live : ∀ a' k rw_ gs, getOut (m.args.map (renBlk (renFin keep))) (keep.map fun p => renBlk (renFin keep) (m.get p.1 p.2)) a' k = .lv rw_ gs →
      ∃ (p : Id) (gs0 : Segs), m.get p.1 p.2 = .lv rw_ gs0 ∧ gs = renSegs (renFin keep) gs0 ∧ ρ' a' k = ρ p.1 p.2 ∧ ((a' = 0 ∧ p = (0, k)) ∨ (a' = 1 ∧ keep[k]? = some p)) := by
    intro a' k rw_ gs hg
    simp only [getOut] at hg
    split at hg
    · rename_i h0
      simp only [List.getD_eq_getElem?_getD, List.getElem?_map] at hg
      cases hq : m.args[k]? with
      | none => simp [hq] at hg
      | some b =>
        simp only [hq, Option.map_some, Option.getD_some] at hg
        obtain ⟨gs0, h1, h2⟩ := renBlk_live hg
        exact ⟨(0, k), gs0, by simp [Mem.get, hq, h1], h2, by simp [ρ', h0], .inl ⟨h0, rfl⟩⟩
    · split at hg
      · rename_i h0 h1
        simp only [List.getD_eq_getElem?_getD, List.getElem?_map] at hg
        cases hq : keep[k]? with
        | none => simp [hq] at hg
        | some p =>
          simp only [hq, Option.map_some, Option.getD_some] at hg
          obtain ⟨gs0, h2, h3⟩ := renBlk_live hg
          exact ⟨p, gs0, h2, h3, by simp [ρ', h1, hq], .inr ⟨h1, rfl⟩⟩
      · cases hg
  refine ⟨_, _, _, ρ', hR, by simp, RelV.ren hto hr, ⟨fun a' k rw_ gs hg => ?_, fun a1 k1 a2 k2 g1 g2 p1 p2 x1 x2 y1 y2 e => ?_, fun a' k p hp => ?_, fun a' k rw_ gs ha hg => ?_⟩, fun k => by simp [ρ'], fun a' k h2 => ?_⟩
  · obtain ⟨p, gs0, h1, rfl, h3, _⟩ := live a' k rw_ gs hg
    obtain ⟨q, fz, e1, e2, e3, e4⟩ := hM.holds _ _ _ _ h1
    exact ⟨q, fz, by rw [h3]; exact e1, e2.ren hto, e3, e4⟩
  · obtain ⟨q1, gs1, h1, _, h3, h4⟩ := live a1 k1 true g1 x1
    obtain ⟨q2, gs2, h1', _, h3', h4'⟩ := live a2 k2 true g2 x2
    rw [h3] at y1
    rw [h3'] at y2
    have hq := hM.apart _ _ _ _ _ _ _ _ h1 h1' y1 y2 e
    have hq' : q1 = q2 := Prod.ext hq.1 hq.2
    subst hq'
    rcases h4 with ⟨rfl, rfl⟩ | ⟨rfl, hmem⟩
    · rcases h4' with ⟨rfl, h5⟩ | ⟨rfl, hmem'⟩
      · simp at h5; exact ⟨rfl, h5⟩
      · exact absurd rfl (hz _ (List.mem_of_getElem? hmem'))
    · rcases h4' with ⟨rfl, rfl⟩ | ⟨rfl, hmem'⟩
      · exact absurd rfl (hz _ (List.mem_of_getElem? hmem))
      · have i1 := idx_of_get (a := q1.1) (k := q1.2) hnd hmem
        have i2 := idx_of_get (a := q1.1) (k := q1.2) hnd hmem'
        rw [i1] at i2
        exact ⟨rfl, Option.some.inj i2⟩
  · simp only [ρ'] at hp
    split at hp
    · exact hM.there _ _ _ hp
    · split at hp
      · cases hf : keep[k]? with
        | none => simp [hf] at hp
        | some q => simp [hf] at hp; exact hM.there _ _ _ hp
      · cases hp
  · obtain ⟨p, gs0, h1, _, _, h4⟩ := live a' k rw_ gs hg
    rcases h4 with ⟨h0, _⟩ | ⟨_, hmem⟩
    · exact absurd h0 ha
    · exact hM.rws _ _ _ _ (hz _ (List.mem_of_getElem? hmem)) h1
  · simp only [ρ']
    rw [if_neg (by omega), if_neg (by omega)]

/-- **THE ABSTRACT WALK IS SOUND.** -/
theorem acalls_of_body (hmix : P.follows .mixedOrders = true) {f : FuncId} {fn : Func} {c : Code} {vs : List AV} {ms : List Blk} {R : AV → List Blk → List Blk → Prop} (hf : P.funcs[f]? = some fn) (hb : fn.body = some c)
    (hok : funOk fn = true) (hvs : vs.length ≤ fn.ntmps) (h : abody P c fn.results.toList vs ms R) : ACalls P f vs ms R := by
  unfold funOk at hok
  rw [hb] at hok
  simp only [Bool.and_eq_true] at hok
  obtain ⟨⟨hcode, hname⟩, _⟩ := hok
  refine ⟨⟨fn, c, hf, hb, by simpa using hname⟩, ?_⟩
  intro ρ own w vals hρ hown hM hrel
  have hlen : vals.length = vs.length := by
    have : ∀ {vs : List AV} {vals : List Value}, RelVs ρ vs vals → vals.length = vs.length := by
      intro vs
      induction vs with
      | nil => intro vals h; simp only [RelVs] at h; subst h; rfl
      | cons v r ih => intro vals h; simp only [RelVs] at h; obtain ⟨u, l', rfl, _, h2⟩ := h; simp [ih h2]
    exact this hrel
  refine calls_of_wp hf hb ?_
  have hM' : MemRel ρ (fun b => own b ∨ w.heap.size ≤ b) (getArgs ms) w :=
    ⟨fun a k rw_ gs hg => by
      obtain ⟨p, fz, h1, h2, h3, h4⟩ := hM.holds a k rw_ gs hg
      refine ⟨p, fz, h1, h2, fun hr => ⟨(h3 hr).1, .inl (h3 hr).2⟩, fun hr ho => ?_⟩
      rcases ho with ho | ho
      · exact h4 hr ho
      · obtain ⟨arr, T, fz', h5, _⟩ := hM.there a k p h1
        have := (Array.getElem?_eq_some_iff.1 h5).1
        omega, hM.apart, hM.there, hM.rws⟩
  have hget : ({ args := ms, loc := [], next := 1 } : Mem).get = getArgs ms := by
    funext a k
    simp only [Mem.get, getArgs]
    split <;> rfl
  have s : St ρ (fun b => own b ∨ w.heap.size ≤ b) fn.ntmps ms.length ρ w (params 0 vs) { args := ms, loc := [], next := 1 } { tmps := vals.toArray ++ Array.replicate (fn.ntmps - vals.toArray.size) undef, defers := [] } w := by
    refine ⟨fun t => ?_, by rw [hget]; exact hM', fun x k hx => hρ x k (by have : 1 ≤ x := hx; omega), Nat.one_pos, fun b hb => .inr hb, by simp; omega, rfl, fun _ => rfl, rfl, Kept.refl _ w⟩
    have := params_rel (ρ := ρ) [] (List.replicate (fn.ntmps - vals.length) undef) hrel t
    simp only [List.nil_append, List.length_nil] at this
    have e : (vals.toArray ++ Array.replicate (fn.ntmps - vals.toArray.size) undef).getD t undef = (vals ++ List.replicate (fn.ntmps - vals.length) undef).getD t undef := by
      rw [Array.getD_eq_getD_getElem?, List.getD_eq_getElem?_getD, ← Array.getElem?_toList]
      simp
    rw [e]
    exact this
  refine awp_sound hmix c ρ _ _ _ w _ _ hcode ?_ s h
  intro x ρ1 env m a w1 s1 hk
  have fin : aress P env m fn.results.toList (fun vs => Fin R m (tupOf vs)) → a.defers = [] ∧ ∃ v, (results fn a.tmps).run P w1 = .ok v w1 ∧
      ∃ r as ns val ρ', Ending.returned v = .returned val ∧ R r as ns ∧ as.length = ms.length ∧ RelV ρ' r val ∧ MemRel ρ' (fun b => own b ∨ w.heap.size ≤ b) (getOut as ns) w1 ∧ (∀ k, ρ' 0 k = ρ 0 k) ∧ (∀ a k, 2 ≤ a → ρ' a k = none) ∧ Kept own w w1 := by
    intro hk
    obtain ⟨vs', val, h1, h2, h3⟩ := results_sound s1 hk
    obtain ⟨r', as, ns, ρ', g1, g2, g3, g4, g5, g6⟩ := fin_sound s1.mem h2 h1
    exact ⟨s1.defers, val, h3, r', as, ns, val, ρ', rfl, g1, g2.trans s1.args, g3, g4, fun k => (g5 k).trans (s1.base k), g6, s1.kept.mono (fun b hb ho => ho.elim id (fun h => by omega))⟩
  cases x with
  | normal => exact fin hk
  | ret => exact fin hk
  | exit id => exact hk.elim
  | goto l => exact hk.elim
  | panic ch => exact hk.elim
  | outgrown => exact hk.elim
end
end Go.Abs
#print axioms Go.Abs.acalls_of_body

/-
How the abstract walk is evaluated: the arguments of each word are made plain before what follows is looked at.
-/
namespace Go.Abs
open Go
set_option linter.unusedVariables false
set_option linter.unusedSectionVars false
set_option linter.unusedSimpArgs false
set_option linter.defProp false

/-- It is always rewritten, so that the simplifier takes each of the congruences below as one that changed something. -/
def Tag : Nat := 0
theorem Tag_eq : Tag = 1 - 1 := (Nat.add_zero Tag).symm.trans (Nat.zero_add 0)

section
variable {P : Program} {K : AV → Prop} {K3 : AV → Ups → List Id → Prop} {KS : Segs → Prop}

@[congr] theorem awp_congr {tg : Nat} (htg : Tag = tg) {c : Code} {env env' : Env} {m m' : Mem} {K : Exit → Env → Mem → Prop} (h1 : env = env') (h2 : m = m') : awp P c env m K = awp P c env' m' K := by rw [h1, h2]
@[congr] theorem aops_congr {tg : Nat} (htg : Tag = tg) {d : Bool} {all l : List Oper} {j j' : Nat} {h h' : Hist} {env env' : Env} {m m' : Mem} {K : Env → Mem → Prop} (h0 : j = j') (hh : h = h') (h1 : env = env') (h2 : m = m') : aops P d all l j h env m K = aops P d all l j' h' env' m' K := by rw [h0, hh, h1, h2]
@[congr] theorem aopX_congr {tg : Nat} (htg : Tag = tg) {d : Bool} {op : Op} {env : Env} {m : Mem} : aopX P d op env m K3 = aopX P d op env m K3 := rfl
@[congr] theorem aop_congr {tg : Nat} (htg : Tag = tg) {op : Op} {env : Env} {m : Mem} : aop P op env m K3 = aop P op env m K3 := rfl
@[congr] theorem abin_congr {tg : Nat} (htg : Tag = tg) {op : BinOp} {t : TypeId} {x x' y y' : AV} (h1 : x = x') (h2 : y = y') : abin P op t x y K = abin P op t x' y' K := by rw [h1, h2]
@[congr] theorem aun_congr {tg : Nat} (htg : Tag = tg) {op : UnOp} {x x' : AV} (h1 : x = x') : aun op x K = aun op x' K := by rw [h1]
@[congr] theorem intBin_congr {tg : Nat} (htg : Tag = tg) {op : BinOp} {k : IntKind} {x y : Int} : intBin op k x y K = intBin op k x y K := rfl
@[congr] theorem intShift_congr {tg : Nat} (htg : Tag = tg) {op : BinOp} {k : IntKind} {x y : Int} : intShift op k x y K = intShift op k x y K := rfl
@[congr] theorem aload_congr {tg : Nat} (htg : Tag = tg) {t : TypeId} {env : Env} {m : Mem} {x : Operand} : aload P t env m x K3 = aload P t env m x K3 := rfl
@[congr] theorem astore_congr {tg : Nat} (htg : Tag = tg) {t : TypeId} {env : Env} {m : Mem} {x y : Operand} : astore P t env m x y K3 = astore P t env m x y K3 := rfl
@[congr] theorem ldSc_congr {tg : Nat} (htg : Tag = tg) {gs gs' : Segs} {st st' off off' : Nat} (h1 : gs = gs') (h2 : st = st') (h3 : off = off') : ldSc gs st off K = ldSc gs' st' off' K := by rw [h1, h2, h3]
@[congr] theorem ldAg_congr {tg : Nat} (htg : Tag = tg) {gs gs' : Segs} {st st' off off' sz : Nat} (h1 : gs = gs') (h2 : st = st') (h3 : off = off') : ldAg gs st off sz K = ldAg gs' st' off' sz K := by rw [h1, h2, h3]
@[congr] theorem ldMulti_congr {tg : Nat} (htg : Tag = tg) {gs : Segs} {st off sz : Nat} : ldMulti gs st off sz K = ldMulti gs st off sz K := rfl
@[congr] theorem splice_congr {tg : Nat} (htg : Tag = tg) {g g1 g' g1' : Sg} {off off' : Nat} {K : Sg → Prop} (h1 : g = g1) (h2 : off = off') (h3 : g' = g1') : splice g off g' K = splice g1 off' g1' K := by rw [h1, h2, h3]
@[congr] theorem stMulti_congr {tg : Nat} (htg : Tag = tg) {gs gs' : Segs} {st : Nat} {vs vs' : Segs} (h1 : gs = gs') (h2 : vs = vs') : stMulti gs st vs KS = stMulti gs' st vs' KS := by rw [h1, h2]
@[congr] theorem stSegs_congr {tg : Nat} (htg : Tag = tg) {gs gs' : Segs} {st st' off off' : Nat} {vs vs' : Segs} (h1 : gs = gs') (h2 : st = st') (h3 : off = off') (h4 : vs = vs') : stSegs gs st off vs KS = stSegs gs' st' off' vs' KS := by rw [h1, h2, h3, h4]
@[congr] theorem aparts_congr' {tg : Nat} (htg : Tag = tg) {pl : Nat → Option (Nat × Nat × Nat)} {env : Env} {l : List (Nat × Operand)} {gs gs' : Segs} (h1 : gs = gs') : aparts P pl env l gs KS = aparts P pl env l gs' KS := by rw [h1]
@[congr] theorem abuild_congr {tg : Nat} (htg : Tag = tg) {t : TypeId} {env : Env} {l : List (Nat × Operand)} : abuild P t env l KS = abuild P t env l KS := rfl
@[congr] theorem abuildSlice_congr {tg : Nat} (htg : Tag = tg) {t : TypeId} {n : Nat} {env : Env} {l : List (Nat × Operand)} {K : Segs → Nat → Prop} : abuildSlice P t n env l K = abuildSlice P t n env l K := rfl
@[congr] theorem aindexAddr_congr {tg : Nat} (htg : Tag = tg) {t : TypeId} {x x' i i' : AV} (h1 : x = x') (h2 : i = i') : aindexAddr P t x i K = aindexAddr P t x' i' K := by rw [h1, h2]
@[congr] theorem aindex_congr {tg : Nat} (htg : Tag = tg) {t : TypeId} {x x' i i' : AV} (h1 : x = x') (h2 : i = i') : aindex P t x i K = aindex P t x' i' K := by rw [h1, h2]
@[congr] theorem afieldAddr_congr {tg : Nat} (htg : Tag = tg) {t : TypeId} {x x' : AV} {f : Nat} (h1 : x = x') : afieldAddr P t x f K = afieldAddr P t x' f K := by rw [h1]
@[congr] theorem aconvert_congr {tg : Nat} (htg : Tag = tg) {s d : TypeId} {x x' : AV} (h1 : x = x') : aconvert P s d x K = aconvert P s d x' K := by rw [h1]
@[congr] theorem asliceHi_congr {tg : Nat} (htg : Tag = tg) {hi hi' : Option AV} {n n' : Nat} {K : Nat → Prop} (h1 : hi = hi') (h2 : n = n') : asliceHi hi n K = asliceHi hi' n' K := by rw [h1, h2]
@[congr] theorem asliceLo_congr {tg : Nat} (htg : Tag = tg) {hi hi' : Option AV} {n n' : Nat} {K : Nat → Prop} (h1 : hi = hi') (h2 : n = n') : asliceLo hi n K = asliceLo hi' n' K := by rw [h1, h2]
@[congr] theorem aslice_congr {tg : Nat} (htg : Tag = tg) {t : TypeId} {x x' : AV} {lo lo' hi hi' : Option AV} (h1 : x = x') (h2 : lo = lo') (h3 : hi = hi') : aslice P t x lo hi K = aslice P t x' lo' hi' K := by rw [h1, h2, h3]
@[congr] theorem asliceV_congr {tg : Nat} (htg : Tag = tg) {t : TypeId} {m : Mem} {x x' : AV} {lo lo' hi hi' : Option AV} (h1 : x = x') (h2 : lo = lo') (h3 : hi = hi') : asliceV P t m x lo hi K3 = asliceV P t m x' lo' hi' K3 := by rw [h1, h2, h3]
@[congr] theorem asliceP_congr {tg : Nat} (htg : Tag = tg) {t : TypeId} {m : Mem} {a k st st' off off' : Nat} {lo lo' hi hi' : Option AV} (h1 : st = st') (h2 : off = off') (h3 : lo = lo') (h4 : hi = hi') : asliceP P t m a k st off lo hi K = asliceP P t m a k st' off' lo' hi' K := by rw [h1, h2, h3, h4]
@[congr] theorem acopy_congr {tg : Nat} (htg : Tag = tg) {t : TypeId} {m : Mem} {x x' y y' : AV} (h1 : x = x') (h2 : y = y') : acopy P t m x y K3 = acopy P t m x' y' K3 := by rw [h1, h2]
@[congr] theorem alen_congr {tg : Nat} (htg : Tag = tg) {t : TypeId} {x x' : AV} (h1 : x = x') : alen P t x K = alen P t x' K := by rw [h1]
@[congr] theorem slCells_congr {tg : Nat} (htg : Tag = tg) {m : Mem} {x x' : AV} {e : Nat} {z : Zk} {K : Sg → Nat → List Id → Prop} (h1 : x = x') : slCells m x e z K = slCells m x' e z K := by rw [h1]
@[congr] theorem slSegs_congr {tg : Nat} (htg : Tag = tg) {m : Mem} {x x' : AV} {e : Nat} {K : Segs → Nat → List Id → Prop} (h1 : x = x') : slSegs m x e K = slSegs m x' e K := by rw [h1]
@[congr] theorem killed_congr {tg : Nat} (htg : Tag = tg) {m : Mem} {x x' : AV} {K : Ups → Prop} (h1 : x = x') : killed m x K = killed m x' K := by rw [h1]
@[congr] theorem catSg_congr {tg : Nat} (htg : Tag = tg) {g g' h h' : Sg} {K : Sg → Prop} (h1 : g = g') (h2 : h = h') : catSg g h K = catSg g' h' K := by rw [h1, h2]
@[congr] theorem aappend_congr {tg : Nat} (htg : Tag = tg) {t : TypeId} {m : Mem} {x x' y y' : AV} (h1 : x = x') (h2 : y = y') : aappend P t m x y K3 = aappend P t m x' y' K3 := by rw [h1, h2]
@[congr] theorem amakeSlice_congr {tg : Nat} (htg : Tag = tg) {t : TypeId} {m : Mem} {x x' y y' : AV} (h1 : x = x') (h2 : y = y') : amakeSlice P t m x y K3 = amakeSlice P t m x' y' K3 := by rw [h1, h2]
@[congr] theorem acallee_congr {tg : Nat} (htg : Tag = tg) {env : Env} {x : Operand} {vs : List AV} {K : FuncId → List AV → Prop} : acallee env x vs K = acallee env x vs K := rfl
@[congr] theorem abuiltin_congr {tg : Nat} (htg : Tag = tg) {b : Builtin} {ts : List TypeId} {m : Mem} {vs vs' : List AV} (h : vs = vs') : abuiltin P b ts m vs K3 = abuiltin P b ts m vs' K3 := by rw [h]
@[congr] theorem CallsVia_congr {tg : Nat} (htg : Tag = tg) {f : FuncId} {vs vs' : List AV} {m : Mem} (h : vs = vs') : CallsVia P f vs m K3 = CallsVia P f vs' m K3 := by rw [h]
@[congr] theorem CallsF_congr {tg : Nat} (htg : Tag = tg) {f : FuncId} {vs : List AV} {m : Mem} {F : List Id} {K : AV → Ups → Prop} : CallsF P f vs m F K = CallsF P f vs m F K := rfl
@[congr] theorem ACalls_congr {tg : Nat} (htg : Tag = tg) {f : FuncId} {vs : List AV} {ms : List Blk} {R : AV → List Blk → List Blk → Prop} : ACalls P f vs ms R = ACalls P f vs ms R := rfl
@[congr] theorem awpLoop_congr {tg : Nat} (htg : Tag = tg) {step : Env → Mem → (Exit → Env → Mem → Prop) → Prop} {env env' : Env} {m m' : Mem} {K : Exit → Env → Mem → Prop} (h1 : env = env') (h2 : m = m') : awpLoop step env m K = awpLoop step env' m' K := by rw [h1, h2]
@[congr] theorem ares_congr {tg : Nat} (htg : Tag = tg) {env : Env} {m : Mem} {r : ResultVar} : ares P env m K r = ares P env m K r := rfl
@[congr] theorem aress_congr {tg : Nat} (htg : Tag = tg) {env : Env} {m : Mem} {rs rs' : List ResultVar} {K : List AV → Prop} (h1 : rs = rs') : aress P env m rs K = aress P env m rs' K := by rw [h1]
@[congr] theorem aleave_congr {tg : Nat} (htg : Tag = tg) {rs : List ResultVar} {R : AV → List Blk → List Blk → Prop} {x : Exit} {env : Env} {m : Mem} : aleave P rs R x env m = aleave P rs R x env m := rfl
end

/-- A call in a region that draws its order: it has one outcome. -/
def CallsX (P : Program) (f : FuncId) (vs : List AV) (m : Mem) (K : AV → Ups → List Id → Prop) : Prop := ∃ F v ups, CallsF P f vs m F (fun v' ups' => v' = v ∧ ups' = ups) ∧ K v ups F
@[congr] theorem CallsX_congr {tg : Nat} (htg : Tag = tg) {P : Program} {K3 : AV → Ups → List Id → Prop} {f : FuncId} {vs vs' : List AV} {m : Mem} (h : vs = vs') : CallsX P f vs m K3 = CallsX P f vs' m K3 := by rw [h]

/-! ### what is looked at first -/

/-- 'a' is made plain before anything of 'f' is looked at. -/
def on {α : Type} (a : α) (f : α → Prop) : Prop := f a
@[congr] theorem on_congr {tg : Nat} (htg : Tag = tg) {α : Type} {a a' : α} {f : α → Prop} (h : a = a') : on a f = on a' f := by rw [h]

section
variable {f : AV → Prop} {fB : Blk → Prop} {fT : Ty → Prop} {fb : Bool → Prop}
theorem on_top : on .top f = f .top := rfl
theorem on_b {x : Bool} : on (.b x) f = f (.b x) := rfl
theorem on_i {k : IntKind} {n : Int} : on (.i k n) f = f (.i k n) := rfl
theorem on_ref {a : Atom} : on (.ref a) f = f (.ref a) := rfl
theorem on_agg {g : Segs} : on (.agg g) f = f (.agg g) := rfl
theorem on_tup {l : List AV} : on (.tup l) f = f (.tup l) := rfl
theorem on_dead : on .dead fB = fB .dead := rfl
theorem on_lv {r : Bool} {g : Segs} : on (.lv r g) fB = fB (.lv r g) := rfl
theorem on_other : on .other fT = fT .other := rfl
theorem on_sc : on .sc fT = fT .sc := rfl
theorem on_bool : on .bool fT = fT .bool := rfl
theorem on_int {k : IntKind} : on (.int k) fT = fT (.int k) := rfl
theorem on_str : on .str fT = fT .str := rfl
theorem on_arr {a b c : Nat} : on (.arr a b c) fT = fT (.arr a b c) := rfl
theorem on_st {a : List (Nat × Nat)} {b : Nat} : on (.st a b) fT = fT (.st a b) := rfl
theorem on_sl {a b : Nat} : on (.sl a b) fT = fT (.sl a b) := rfl
theorem on_none {α : Type} {g : Option α → Prop} : on none g = g none := rfl
theorem on_some {α : Type} {g : Option α → Prop} {a : α} : on (some a) g = g (some a) := rfl
theorem on_true : on true fb = fb true := rfl
theorem on_false : on false fb = fb false := rfl
end

section
variable {P : Program} {K : AV → Prop} {K3 : AV → Ups → List Id → Prop} {KS : Segs → Prop}

theorem aopX_f {op : Op} {env : Env} {m : Mem} : aopX P false op env m K3 = aop P op env m K3 := rfl
theorem aopX_move {x : Operand} {env : Env} {m : Mem} : aopX P true (.move x) env m K3 = aop P (.move x) env m K3 := rfl
theorem aopX_assign {x : Operand} {env : Env} {m : Mem} : aopX P true (.assign x) env m K3 = aop P (.assign x) env m K3 := rfl
theorem aopX_pick {a b c : Operand} {env : Env} {m : Mem} : aopX P true (.pick c a b) env m K3 = aop P (.pick c a b) env m K3 := rfl
theorem aopX_alloc {t : TypeId} {env : Env} {m : Mem} : aopX P true (.alloc t) env m K3 = aop P (.alloc t) env m K3 := rfl
theorem aopX_box {t : TypeId} {x : Operand} {env : Env} {m : Mem} : aopX P true (.box t x) env m K3 = aop P (.box t x) env m K3 := rfl
theorem aopX_build {t : TypeId} {l : Array (Nat × Operand)} {env : Env} {m : Mem} : aopX P true (.build t l) env m K3 = aop P (.build t l) env m K3 := rfl
theorem aopX_buildSlice {t : TypeId} {n : Nat} {l : Array (Nat × Operand)} {env : Env} {m : Mem} : aopX P true (.buildSlice t n l) env m K3 = aop P (.buildSlice t n l) env m K3 := rfl
theorem aopX_load {t : TypeId} {x : Operand} {env : Env} {m : Mem} : aopX P true (.load t x) env m K3 = aop P (.load t x) env m K3 := rfl
theorem aopX_store {t : TypeId} {x y : Operand} {env : Env} {m : Mem} : aopX P true (.store t x y) env m K3 = aop P (.store t x y) env m K3 := rfl
theorem aopX_nilCheck {x : Operand} {env : Env} {m : Mem} : aopX P true (.nilCheck x) env m K3 = aop P (.nilCheck x) env m K3 := rfl
theorem aopX_binOp {op : BinOp} {t t' : TypeId} {x y : Operand} {env : Env} {m : Mem} : aopX P true (.binOp op t x y t') env m K3 = aop P (.binOp op t x y t') env m K3 := rfl
theorem aopX_unOp {op : UnOp} {t : TypeId} {x : Operand} {env : Env} {m : Mem} : aopX P true (.unOp op t x) env m K3 = aop P (.unOp op t x) env m K3 := rfl
theorem aopX_convert {s d : TypeId} {x : Operand} {env : Env} {m : Mem} : aopX P true (.convert s d x) env m K3 = aop P (.convert s d x) env m K3 := rfl
theorem aopX_makeFunc {f : Fn} {a b : _} {env : Env} {m : Mem} : aopX P true (.makeFunc f a b) env m K3 = aop P (.makeFunc f a b) env m K3 := rfl
theorem aopX_makeSlice {t : TypeId} {n c : Operand} {env : Env} {m : Mem} : aopX P true (.makeSlice t n c) env m K3 = aop P (.makeSlice t n c) env m K3 := rfl
theorem aopX_slice {t : TypeId} {x : Operand} {a b c : Option Operand} {env : Env} {m : Mem} : aopX P true (.slice t x a b c) env m K3 = aop P (.slice t x a b c) env m K3 := rfl
theorem aopX_fieldAddr {t : TypeId} {x : Operand} {f : Nat} {env : Env} {m : Mem} : aopX P true (.fieldAddr t x f) env m K3 = aop P (.fieldAddr t x f) env m K3 := rfl
theorem aopX_indexAddr {t : TypeId} {x i : Operand} {env : Env} {m : Mem} : aopX P true (.indexAddr t x i) env m K3 = aop P (.indexAddr t x i) env m K3 := rfl
theorem aopX_index {t : TypeId} {x i : Operand} {env : Env} {m : Mem} : aopX P true (.index t x i) env m K3 = aop P (.index t x i) env m K3 := rfl
theorem aopX_extract {x : Operand} {j : Nat} {env : Env} {m : Mem} : aopX P true (.extract x j) env m K3 = aop P (.extract x j) env m K3 := rfl
theorem aopX_builtin {b : Builtin} {a : _} {c : _} {env : Env} {m : Mem} : aopX P true (.call ⟨.builtin b, a, c⟩) env m K3 = aop P (.call ⟨.builtin b, a, c⟩) env m K3 := rfl
theorem aopX_call {f : Operand} {args : List Operand} {ts : Array TypeId} {env : Env} {m : Mem} : aopX P true (.call ⟨.value f, args.toArray, ts⟩) env m K3 = acallee env f (args.map (aev env)) fun f vs => CallsX P f vs m K3 := rfl
theorem chk_pure {all : List Oper} {j : Nat} {h : Hist} : chk all j [] [] h = True := by
  induction h with
  | nil => rfl
  | cons a h ih => obtain ⟨i, wr, rd⟩ := a; unfold chk; rw [ih]; simp [disj]
theorem chk_nil {all : List Oper} {j : Nat} {wr rd : List Id} : chk all j wr rd [] = True := rfl
theorem disj_nil (l : List Id) : disj l [] = true := by simp [disj]
theorem nil_disj (l : List Id) : disj [] l = true := by simp [disj]
theorem chk_r {all : List Oper} {i j : Nat} {rd rd' : List Id} {h : Hist} : chk all j [] rd ((i, [], rd') :: h) = chk all j [] rd h := by
  simp [chk, disj_nil, nil_disj]
theorem chk_w {all : List Oper} {i j : Nat} {wr rd : List Id} {h : Hist} : chk all j wr rd ((i, [], []) :: h) = chk all j wr rd h := by
  simp [chk, nil_disj]
theorem chk_wr {all : List Oper} {i j : Nat} {p q : Id} {rd : List Id} {h : Hist} (hp : p ≠ q) : chk all j [p] rd ((i, [], [q]) :: h) = chk all j [p] rd h := by
  have : (p == q) = false := by simpa using hp
  have h2 : (q == p) = false := by simpa using fun e => hp e.symm
  simp [chk, disj, this, h2, hp, Ne.symm hp]
theorem chk_rw {all : List Oper} {i j : Nat} {p q : Id} {rd : List Id} {h : Hist} (hp : p ≠ q) : chk all j [] [q] ((i, [p], []) :: h) = chk all j [] [q] h := by
  have : (p == q) = false := by simpa using hp
  have h2 : (q == p) = false := by simpa using fun e => hp e.symm
  simp [chk, disj, this, h2, hp, Ne.symm hp]
instance decChk (all : List Oper) (j : Nat) (wr rd : List Id) : (h : Hist) → Decidable (chk all j wr rd h)
  | [] => .isTrue trivial
  | (i, wr', rd') :: r => @instDecidableAnd _ _ _ (decChk all j wr rd r)
theorem awp_region {n : Nat} {l : List Oper} {d : Bool} {env : Env} {m : Mem} {K : Exit → Env → Mem → Prop} : awp P (.region n l.toArray d) env m K = aops P d l l 0 [] env m fun env m => K .normal env m := rfl
theorem aops_nil {d : Bool} {all : List Oper} {j : Nat} {h : Hist} {env : Env} {m : Mem} {K : Env → Mem → Prop} : aops P d all [] j h env m K = K env m := rfl
theorem aops_nf {all rest : List Oper} {dst : Option Tmp} {op : Op} {ty : TypeId} {pos : String} {aft : Array Edge} {j : Nat} {h : Hist} {env : Env} {m : Mem} {K : Env → Mem → Prop} : aops P false all (⟨dst, op, ty, pos, aft, none⟩ :: rest) j h env m K =
    aop P op env m fun v ups _ => aops P false all rest (j + 1) h (setD env dst v) (m.upd ups).tick K := rfl
theorem aops_nt {all rest : List Oper} {dst : Option Tmp} {op : Op} {ty : TypeId} {pos : String} {aft : Array Edge} {j : Nat} {h : Hist} {env : Env} {m : Mem} {K : Env → Mem → Prop} : aops P true all (⟨dst, op, ty, pos, aft, none⟩ :: rest) j h env m K =
    aopX P true op env m fun v ups rd => chk all j (ups.map (·.1)) rd h ∧ aops P true all rest (j + 1) ((j, ups.map (·.1), rd) :: h) (setD env dst v) (m.upd ups).tick K := rfl
theorem aops_gf {all rest : List Oper} {dst : Option Tmp} {op : Op} {ty : TypeId} {pos : String} {aft : Array Edge} {j : Nat} {h : Hist} {env : Env} {m : Mem} {K : Env → Mem → Prop} {g : Nat} {want : Bool} : aops P false all (⟨dst, op, ty, pos, aft, some (g, want)⟩ :: rest) j h env m K =
    on (dstOf all g) fun t => match t with
      | some t => on (lk env t) fun v => match v with
        | .b x => on x fun x =>
          if x = want then aop P op env m fun v ups _ => aops P false all rest (j + 1) h (setD env dst v) (m.upd ups).tick K
          else aops P false all rest (j + 1) h (setD env dst (.tup [])) m.tick K
        | .tup [] => aops P false all rest (j + 1) h (setD env dst (.tup [])) m.tick K
        | _ => False
      | none => False := rfl
theorem aops_gt {all rest : List Oper} {dst : Option Tmp} {op : Op} {ty : TypeId} {pos : String} {aft : Array Edge} {j : Nat} {h : Hist} {env : Env} {m : Mem} {K : Env → Mem → Prop} {g : Nat} {want : Bool} : aops P true all (⟨dst, op, ty, pos, aft, some (g, want)⟩ :: rest) j h env m K =
    on (dstOf all g) fun t => match t with
      | some t => on (lk env t) fun v => match v with
        | .b x => on x fun x =>
          if x = want then aopX P true op env m fun v ups rd => chk all j (ups.map (·.1)) rd h ∧ aops P true all rest (j + 1) ((j, ups.map (·.1), rd) :: h) (setD env dst v) (m.upd ups).tick K
          else aops P true all rest (j + 1) h (setD env dst (.tup [])) m.tick K
        | .tup [] => aops P true all rest (j + 1) h (setD env dst (.tup [])) m.tick K
        | _ => False
      | none => False := rfl

theorem aop_move {env : Env} {m : Mem} {x : Operand} : aop P (.move x) env m K3 = K3 (aev env x) [] [] := rfl
theorem aop_assign {env : Env} {m : Mem} {x : Operand} : aop P (.assign x) env m K3 = K3 (aev env x) [] [] := rfl
theorem aop_pick {env : Env} {m : Mem} {a b c : Operand} : aop P (.pick c a b) env m K3 = on (aev env c) fun v => match v with | .b g => K3 (pickV g (aev env a) (aev env b)) [] [] | _ => False := rfl
theorem aop_alloc {env : Env} {m : Mem} {t : TypeId} : aop P (.alloc t) env m K3 = on (zeroOf P t) fun z => match z with | some gs => K3 (.ref (.ptr m.next 0 0 0)) [((m.next, 0), .lv true gs)] [] | none => False := rfl
theorem aop_box {env : Env} {m : Mem} {t : TypeId} {x : Operand} : aop P (.box t x) env m K3 = on (segsOfAV (aev env x)) fun z => match z with | some gs => K3 (.ref (.ptr m.next 0 0 0)) [((m.next, 0), .lv true gs)] [] | none => False := rfl
theorem aop_build {env : Env} {m : Mem} {t : TypeId} {parts : List (Nat × Operand)} : aop P (.build t parts.toArray) env m K3 = abuild P t env parts fun gs => K3 (.agg gs) [] [] := rfl
theorem aop_buildSlice {env : Env} {m : Mem} {t : TypeId} {len : Nat} {parts : List (Nat × Operand)} : aop P (.buildSlice t len parts.toArray) env m K3 = abuildSlice P t len env parts fun gs esz => K3 (.ref (.sl m.next 0 0 0 len esz)) [((m.next, 0), .lv true gs)] [] := rfl
theorem aop_load {env : Env} {m : Mem} {t : TypeId} {x : Operand} : aop P (.load t x) env m K3 = aload P t env m x K3 := rfl
theorem aop_store {env : Env} {m : Mem} {t : TypeId} {x y : Operand} : aop P (.store t x y) env m K3 = astore P t env m x y K3 := rfl
theorem aop_nilCheck {env : Env} {m : Mem} {x : Operand} : aop P (.nilCheck x) env m K3 = on (aev env x) fun v => match v with | .ref (.ptr a k st off) => K3 (.ref (.ptr a k st off)) [] [] | .ref (.fn f cs) => K3 (.ref (.fn f cs)) [] [] | _ => False := rfl
theorem aop_binOp {env : Env} {m : Mem} {op : BinOp} {t t' : TypeId} {x y : Operand} : aop P (.binOp op t x y t') env m K3 = abin P op t (aev env x) (aev env y) fun v => K3 v [] [] := rfl
theorem aop_unOp {env : Env} {m : Mem} {op : UnOp} {t : TypeId} {x : Operand} : aop P (.unOp op t x) env m K3 = aun op (aev env x) fun v => K3 v [] [] := rfl
theorem aop_convert {env : Env} {m : Mem} {s d : TypeId} {x : Operand} : aop P (.convert s d x) env m K3 = aconvert P s d (aev env x) fun v => K3 v [] [] := rfl
theorem aop_makeFunc {env : Env} {m : Mem} {f : FuncId} {caps : List Operand} : aop P (.makeFunc (.func f) #[] caps.toArray) env m K3 = on (capsOf env caps) fun l => match l with | some l => K3 (.ref (.fn f l)) [] [] | none => False := rfl
theorem aop_makeSlice {env : Env} {m : Mem} {t : TypeId} {n c : Operand} : aop P (.makeSlice t n c) env m K3 = amakeSlice P t m (aev env n) (aev env c) K3 := rfl
theorem aop_slice {env : Env} {m : Mem} {t : TypeId} {x : Operand} {lo hi : Option Operand} : aop P (.slice t x lo hi none) env m K3 = asliceV P t m (aev env x) (lo.map (aev env)) (hi.map (aev env)) K3 := rfl
theorem aop_fieldAddr {env : Env} {m : Mem} {t : TypeId} {x : Operand} {f : Nat} : aop P (.fieldAddr t x f) env m K3 = afieldAddr P t (aev env x) f fun v => K3 v [] [] := rfl
theorem aop_indexAddr {env : Env} {m : Mem} {t : TypeId} {x i : Operand} : aop P (.indexAddr t x i) env m K3 = aindexAddr P t (aev env x) (aev env i) fun v => K3 v [] [] := rfl
theorem aop_index {env : Env} {m : Mem} {t : TypeId} {x i : Operand} : aop P (.index t x i) env m K3 = aindex P t (aev env x) (aev env i) fun v => K3 v [] [] := rfl
theorem aop_extract {env : Env} {m : Mem} {x : Operand} {j : Nat} : aop P (.extract x j) env m K3 = on (aev env x) fun v => match v with | .tup vs => on vs[j]? fun v => (match v with | some v => K3 v [] [] | none => False) | _ => False := rfl
theorem aop_call {env : Env} {m : Mem} {f : Operand} {args : List Operand} {ts : Array TypeId} : aop P (.call ⟨.value f, args.toArray, ts⟩) env m K3 = acallee env f (args.map (aev env)) fun f vs => CallsVia P f vs m K3 := rfl
theorem aop_builtin {env : Env} {m : Mem} {b : Builtin} {args : List Operand} {ts : List TypeId} : aop P (.call ⟨.builtin b, args.toArray, ts.toArray⟩) env m K3 = abuiltin P b ts m (args.map (aev env)) K3 := rfl

theorem acallee_on {env : Env} {x : Operand} {vs : List AV} {K : FuncId → List AV → Prop} : acallee env x vs K = on (aev env x) fun v => match v with | .ref (.fn f caps) => K f (vs ++ capArgs caps) | _ => False := rfl
theorem aload_on {t : TypeId} {env : Env} {m : Mem} {x : Operand} : aload P t env m x K3 = on (aev env x) fun v => match v with
  | .ref (.ptr a k st off) => on (m.get a k) fun b => match b with
    | .lv _ gs => on (tyOf P t) fun ty => match ty with
      | .arr _ _ sz => 0 < sz ∧ ldAg gs st off sz fun v => K3 v [] [(a, k)]
      | .st _ sz => 0 < sz ∧ ldAg gs st off sz fun v => K3 v [] [(a, k)]
      | .other => False
      | _ => ldSc gs st off fun v => K3 v [] [(a, k)]
    | .dead => False
  | _ => False := rfl
theorem astore_on {t : TypeId} {env : Env} {m : Mem} {x v : Operand} : astore P t env m x v K3 = on (aev env x) fun p => on (segsOfAV (aev env v)) fun vs => match p, vs with
  | .ref (.ptr a k st off), some vs => on (m.get a k) fun b => match b with
    | .lv true gs => segsLen vs = szOf P t ∧ (P.info? t).isSome = true ∧ stSegs gs st off vs fun gs' => K3 .top [((a, k), .lv true gs')] []
    | _ => False
  | _, _ => False := rfl
theorem ldSc_on {gs : Segs} {st off : Nat} : ldSc gs st off K = on (seg? gs st) fun s => match s with
  | some (.ints k n xs) => off < n ∧ K (.i k (xs.getD off 0))
  | some (.bools n xs) => off < n ∧ K (.b (xs.getD off false))
  | some (.cells n vs) => off < n ∧ K (.ref (vs.getD off .top))
  | none => False := rfl
theorem ldMulti_on {gs : Segs} {st off sz : Nat} : ldMulti gs st off sz K = on (takeSz (st + off) (dropTo gs (st + off)) sz) fun s => match s with
  | some hs => K (.agg hs)
  | none => False := rfl
theorem ldAg_on {gs : Segs} {st off sz : Nat} : ldAg gs st off sz K = on (seg? gs st) fun s => match s with
  | some (.ints k n xs) =>
    if n = sz then off = 0 ∧ K (.agg [(0, .ints k n xs)])
    else if sz < n then off + sz ≤ n ∧ K (.agg [(0, .ints k sz ((xs.drop off).take sz))])
    else ldMulti gs st off sz K
  | some (.bools n xs) =>
    if n = sz then off = 0 ∧ K (.agg [(0, .bools n xs)])
    else if sz < n then off + sz ≤ n ∧ K (.agg [(0, .bools sz ((xs.drop off).take sz))])
    else ldMulti gs st off sz K
  | some (.cells _ _) => ldMulti gs st off sz K
  | none => False := rfl
theorem stMulti_nil {gs : Segs} {st : Nat} : stMulti gs st [] KS = KS gs := rfl
theorem stMulti_cons {gs r : Segs} {st s : Nat} {g' : Sg} : stMulti gs st ((s, g') :: r) KS = on (seg? gs (st + s)) fun x => match x with
    | some g => g.len = g'.len ∧ splice g 0 g' fun g2 => stMulti (updSeg gs (st + s) g2) st r KS
    | none => False := rfl
theorem stSegs_one {gs : Segs} {st off s : Nat} {g' : Sg} : stSegs gs st off [(s, g')] KS = on (seg? gs st) fun x => match x with
    | some g => splice g off g' fun g2 => KS (updSeg gs st g2)
    | none => False := rfl
theorem stSegs_nil {gs : Segs} {st off : Nat} : stSegs gs st off [] KS = (off = 0 ∧ (seg? gs st).isSome = true ∧ stMulti gs st [] KS) := rfl
theorem stSegs_more {gs : Segs} {st off : Nat} {x y : Nat × Sg} {r : Segs} : stSegs gs st off (x :: y :: r) KS = (off = 0 ∧ (seg? gs st).isSome = true ∧ stMulti gs st (x :: y :: r) KS) := rfl
theorem aparts_nil {pl : Nat → Option (Nat × Nat × Nat)} {env : Env} {gs : Segs} : aparts P pl env [] gs KS = KS gs := rfl
theorem aparts_cons {pl : Nat → Option (Nat × Nat × Nat)} {env : Env} {gs : Segs} {j : Nat} {x : Operand} {r : List (Nat × Operand)} : aparts P pl env ((j, x) :: r) gs KS = on (pl j) fun p => on (segsOfAV (aev env x)) fun vs => match p, vs with
    | some (st, off, sz), some vs => segsLen vs = sz ∧ stSegs gs st off vs fun gs' => aparts P pl env r gs' KS
    | _, _ => False := rfl
theorem abuild_on {t : TypeId} {env : Env} {l : List (Nat × Operand)} : abuild P t env l KS = on (zeroOf P t) fun z => on (tyOf P t) fun ty => match z, ty with
  | some gs, .st offs _ => offs.all (fun p => 0 < p.2) = true ∧ aparts P (fun j => (offs[j]?).map fun p => (p.1, 0, p.2)) env l gs KS
  | some gs, .arr _ esz _ => 0 < esz ∧ aparts P (fun j => some (0, j * esz, esz)) env l gs KS
  | _, _ => False := rfl
theorem abuildSlice_on {t : TypeId} {len : Nat} {env : Env} {l : List (Nat × Operand)} {K : Segs → Nat → Prop} : abuildSlice P t len env l K = on (tyOf P t) fun ty => on (zeroEl P (elOf P t)) fun z => match ty, z with
  | .sl esz _, some z => 0 < esz ∧ z.len = esz ∧ len * esz ≤ 16777216 ∧ aparts P (fun j => some (0, j * esz, esz)) env l [(0, zeroArr len z)] fun gs => K gs esz
  | .sl esz _, none => on (mixZero P t len) fun z => match z with
    | some gs => 0 < esz ∧ segsLen gs = len * esz ∧ len * esz ≤ 16777216 ∧ aparts P (fun j => some (0, j * esz, esz)) env l gs fun gs => K gs esz
    | none => False
  | _, _ => False := by unfold abuildSlice on; cases tyOf P t <;> cases zeroEl P (elOf P t) <;> rfl
theorem aindexAddr_ptr {t : TypeId} {a k st off : Nat} {k2 : IntKind} {n : Int} : aindexAddr P t (.ref (.ptr a k st off)) (.i k2 n) K = on (tyOf P t) fun ty => match ty with
    | .arr len esz _ => 0 < esz ∧ 0 ≤ n ∧ n < len ∧ K (.ref (.ptr a k st (off + n.toNat * esz)))
    | _ => False := rfl
theorem aindexAddr_sl {t : TypeId} {a k st off len esz : Nat} {k2 : IntKind} {n : Int} : aindexAddr P t (.ref (.sl a k st off len esz)) (.i k2 n) K = on (tyOf P t) fun ty => match ty with
    | .sl e _ => e = esz ∧ 0 < esz ∧ 0 ≤ n ∧ n < len ∧ K (.ref (.ptr a k st (off + n.toNat * esz)))
    | _ => False := rfl
theorem aindex_agg {t : TypeId} {gs : Segs} {k2 : IntKind} {n : Int} : aindex P t (.agg gs) (.i k2 n) K = on (tyOf P t) fun ty => match ty with
    | .arr len esz _ => 0 ≤ n ∧ n < len ∧ 0 < esz ∧ on (tyOf P (arrEl P t)) fun ty => match ty with
      | .arr _ _ _ => ldAg gs 0 (n.toNat * esz) esz K
      | .st _ _ => ldAg gs 0 (n.toNat * esz) esz K
      | .other => False
      | _ => esz = 1 ∧ ldSc gs 0 n.toNat K
    | _ => False := rfl
theorem aindex_str {t : TypeId} {x : ByteArray} {k2 : IntKind} {n : Int} : aindex P t (.ref (.s x)) (.i k2 n) K = on (tyOf P t) fun ty => match ty with
    | .str => 0 ≤ n ∧ n < x.size ∧ K (.i .u8 (x.data.getD n.toNat 0).toNat)
    | _ => False := rfl
theorem afieldAddr_on {t : TypeId} {a k st off f : Nat} : afieldAddr P t (.ref (.ptr a k st off)) f K = on (tyOf P t) fun ty => match ty with
  | .st offs _ => on offs[f]? fun q => match q with
    | some p => 0 < p.2 ∧ K (.ref (.ptr a k (st + off + p.1) 0))
    | none => False
  | _ => False := by unfold afieldAddr on; cases tyOf P t <;> rfl
theorem aconvert_on {s d : TypeId} {k2 : IntKind} {n : Int} : aconvert P s d (.i k2 n) K = on (tyOf P s) fun x => on (tyOf P d) fun y => match x, y with
  | .int _, .int k => K (.i k (k.wrap n))
  | _, _ => False := by unfold aconvert on; cases tyOf P s <;> cases tyOf P d <;> rfl
theorem asliceHi_none {n : Nat} {K : Nat → Prop} : asliceHi none n K = K n := rfl
theorem asliceHi_some {k : IntKind} {x : Int} {n : Nat} {K : Nat → Prop} : asliceHi (some (.i k x)) n K = (0 ≤ x ∧ x ≤ n ∧ K x.toNat) := rfl
theorem asliceLo_none {n : Nat} {K : Nat → Prop} : asliceLo none n K = K 0 := rfl
theorem asliceLo_some {k : IntKind} {x : Int} {n : Nat} {K : Nat → Prop} : asliceLo (some (.i k x)) n K = (0 ≤ x ∧ x ≤ n ∧ K x.toNat) := rfl
theorem aslice_sl {t : TypeId} {a k st off len esz : Nat} {lo hi : Option AV} : aslice P t (.ref (.sl a k st off len esz)) lo hi K = on (tyOf P t) fun ty => match ty with
  | .sl e _ => e = esz ∧ 0 < esz ∧ asliceHi hi len fun h => asliceLo lo h fun l => K (.ref (.sl a k st (off + l * esz) (h - l) esz))
  | _ => False := by unfold aslice on; cases tyOf P t <;> rfl
theorem asliceV_sl {t : TypeId} {m : Mem} {a k st off len esz : Nat} {lo hi : Option AV} : asliceV P t m (.ref (.sl a k st off len esz)) lo hi K3 = aslice P t (.ref (.sl a k st off len esz)) lo hi fun v => K3 v [] [] := rfl
theorem asliceV_s {t : TypeId} {m : Mem} {x : ByteArray} {lo hi : Option AV} : asliceV P t m (.ref (.s x)) lo hi K3 = aslice P t (.ref (.s x)) lo hi fun v => K3 v [] [] := rfl
theorem asliceV_ptr {t : TypeId} {m : Mem} {a k st off : Nat} {lo hi : Option AV} : asliceV P t m (.ref (.ptr a k st off)) lo hi K3 = asliceP P t m a k st off lo hi fun v => K3 v [] [(a, k)] := rfl
theorem asliceP_on {t : TypeId} {m : Mem} {a k st off : Nat} {lo hi : Option AV} : asliceP P t m a k st off lo hi K = on (tyOf P t) fun ty => on (m.get a k) fun b => match ty, b with
  | .arr n esz _, .lv _ gs => 0 < esz ∧ st + off + n * esz ≤ segsLen gs ∧ asliceHi hi n fun h => asliceLo lo h fun l => K (.ref (.sl a k st (off + l * esz) (h - l) esz))
  | _, _ => False := by unfold asliceP on; rfl
theorem acopy_on {t : TypeId} {m : Mem} {a k st off n e : Nat} {y : AV} : acopy P t m (.ref (.sl a k st off n e)) y K3 = on (tyOf P t) fun ty => match ty with
  | .sl esz _ => esz = 1 ∧ e = 1 ∧ slCells m y 1 (.bools 1) fun g n' rd => 0 < min n' n ∧ on (m.get a k) fun b => match b with
    | .lv true gs => stSegs gs st off [(0, subSg' g 0 (min n' n))] fun gs2 => K3 (.i .i64 (min n' n : Nat)) [((a, k), .lv true gs2)] rd
    | _ => False
  | _ => False := by unfold acopy on; cases tyOf P t <;> rfl
theorem aslice_str {t : TypeId} {x : ByteArray} {lo hi : Option AV} : aslice P t (.ref (.s x)) lo hi K = on (tyOf P t) fun ty => match ty with
  | .str => asliceHi hi x.size fun h => asliceLo lo h fun l => K (.ref (.s (x.extract l h)))
  | _ => False := by unfold aslice on; cases tyOf P t <;> rfl
theorem alen_on {t : TypeId} {x : AV} : alen P t x K = on (tyOf P t) fun ty => on x fun x => match ty, x with
  | .sl _ _, .ref (.sl _ _ _ _ n _) => K (.i .i64 n)
  | .sl _ _, .ref .nils => K (.i .i64 0)
  | .sl _ _, .ref .sl0 => K (.i .i64 0)
  | .arr n _ _, _ => K (.i .i64 n)
  | .str, .ref (.s x) => K (.i .i64 x.size)
  | _, _ => False := rfl
theorem slCells_nils {m : Mem} {esz : Nat} {z : Zk} {K : Sg → Nat → List Id → Prop} : slCells m (.ref .nils) esz z K = K (zeroArr 0 z) 0 [] := rfl
theorem slCells_sl {m : Mem} {a k st off len e esz : Nat} {z : Zk} {K : Sg → Nat → List Id → Prop} : slCells m (.ref (.sl a k st off len e)) esz z K = on (m.get a k) fun b => match b with
    | .lv _ gs => on (seg? gs st) fun s => match s with
      | some g => e = esz ∧ off + len * esz ≤ g.len ∧ K (subSg' g off (len * esz)) len [(a, k)]
      | none => False
    | .dead => False := rfl
theorem killed_nils {m : Mem} {K : Ups → Prop} : killed m (.ref .nils) K = K [] := rfl
theorem killed_sl {m : Mem} {a k st off len e : Nat} {K : Ups → Prop} : killed m (.ref (.sl a k st off len e)) K = on (m.get a k) fun b => match b with | .lv true _ => K [((a, k), .dead)] | _ => False := rfl
theorem aappend_on {t : TypeId} {m : Mem} {s x : AV} : aappend P t m s x K3 = on (tyOf P t) fun ty => on (zeroEl P (elOf P t)) fun z => match ty, z with
  | .sl esz bytes, some z =>
    0 < esz ∧ 0 < bytes ∧ z.len = esz ∧ notNil x ∧
    slCells m s esz z fun g n rd => slCells m x esz z fun h n' rd' => (n + n') * bytes ≤ 140737488355328 ∧ (isNil s → 0 < n') ∧ killed m s fun ks =>
      catSg g h fun g2 => K3 (.ref (.sl m.next 0 0 0 (n + n') esz)) (ks ++ [((m.next, 0), .lv true [(0, g2)])]) (rd ++ rd')
  | .sl esz bytes, none => on (mixZero P t 1) fun z => match z with
    | some z => 0 < esz ∧ 0 < bytes ∧ segsLen z = esz ∧
      slSegs m s esz fun g n rd => slSegs m x esz fun h n' rd' => (n + n') * bytes ≤ 140737488355328 ∧ killed m s fun ks =>
        K3 (.ref (.sl m.next 0 0 0 (n + n') esz)) (ks ++ [((m.next, 0), .lv true (g ++ shiftSg (n * esz) h))]) (rd ++ rd')
    | none => False
  | _, _ => False := by unfold aappend on; cases tyOf P t <;> cases zeroEl P (elOf P t) <;> rfl
theorem slSegs_sl {m : Mem} {a k st off len e esz : Nat} {K : Segs → Nat → List Id → Prop} : slSegs m (.ref (.sl a k st off len e)) esz K = on (m.get a k) fun b => match b with
    | .lv _ gs => st = 0 ∧ off = 0 ∧ e = esz ∧ segsLen gs = len * esz ∧ K gs len [(a, k)]
    | .dead => False := rfl
theorem amakeSlice_on {t : TypeId} {m : Mem} {n c : Int} : amakeSlice P t m (.i .i64 n) (.i .i64 c) K3 = on (tyOf P t) fun ty => on (zeroEl P (elOf P t)) fun z => match ty, z with
  | .sl esz bytes, some z =>
    0 < esz ∧ 0 < bytes ∧ z.len = esz ∧ 0 ≤ n ∧ n = c ∧ c * bytes ≤ 140737488355328 ∧ K3 (.ref (.sl m.next 0 0 0 n.toNat esz)) [((m.next, 0), .lv true [(0, zeroArr n.toNat z)])] []
  | _, _ => False := by unfold amakeSlice on; cases tyOf P t <;> cases zeroEl P (elOf P t) <;> rfl
theorem awp_cond {c : Operand} {t e : Code} {env : Env} {m : Mem} {K : Exit → Env → Mem → Prop} : awp P (.cond c t e) env m K = on (aev env c) fun v => match v with
    | .b x => on x fun x => if x = true then awp P t env m K else awp P e env m K
    | _ => False := rfl
theorem abin_ints {op : BinOp} {t : TypeId} {k k' : IntKind} {a b : Int} : abin P op t (.i k a) (.i k' b) K = if isShift op then intShift op k a b K else k = k' ∧ intBin op k a b K := rfl
theorem abin_bools {op : BinOp} {t : TypeId} {a b : Bool} : abin P op t (.b a) (.b b) K = match op with
    | .eql => tyOf P t = .bool ∧ K (.b (a == b))
    | .neq => tyOf P t = .bool ∧ K (.b (!(a == b)))
    | _ => False := rfl
theorem abin_aggs {op : BinOp} {t : TypeId} {gs hs : Segs} : abin P op t (.agg gs) (.agg hs) K = on (eqSegs gs hs) fun r => match op, r with
    | .eql, some r => eqTy P t (shapes gs) = true ∧ K (.b r)
    | .neq, some r => eqTy P t (shapes gs) = true ∧ K (.b (!r))
    | _, _ => False := rfl
theorem eqSegs_nil : eqSegs [] [] = some true := rfl
theorem eqSegs_ii {st st' n : Nat} {k : IntKind} {xs ys : List Int} {r s : Segs} : eqSegs ((st, .ints k n xs) :: r) ((st', .ints k n ys) :: s) = (eqSegs r s).map (fun y => decide (xs = ys) && y) := by
  simp only [eqSegs, eqSg, and_self, if_true]
  cases eqSegs r s <;> rfl
theorem eqSegs_bb {st st' n : Nat} {xs ys : List Bool} {r s : Segs} : eqSegs ((st, .bools n xs) :: r) ((st', .bools n ys) :: s) = (eqSegs r s).map (fun y => decide (xs = ys) && y) := by
  simp only [eqSegs, eqSg, if_true]
  cases eqSegs r s <;> rfl
theorem ares_tmp {env : Env} {m : Mem} {t : Tmp} : ares P env m K (.tmp t) = K (lk env t) := rfl
theorem ares_cell {env : Env} {m : Mem} {t : Tmp} {ty : TypeId} : ares P env m K (.cell t ty) = aload P ty env m (.tmp t) fun v _ _ => K v := rfl
end

/-! ### calls, as they are met -/

theorem CallsVia.intro {P : Program} {f : FuncId} {vs : List AV} {m : Mem} {K : AV → Ups → List Id → Prop} (F : List Id) (hn : F.Nodup) (hl : ∀ p ∈ F, m.get p.1 p.2 ≠ .dead)
    {R : AV → List Blk → List Blk → Prop} (h : ACalls P f (renVs (renIn F) vs) (argBlks m F) R)
    (hK : ∀ r xs ns, R r xs ns → K (renV (renOut m.next F) r) (zipUps (renOut m.next F) F xs ++ newUps (renOut m.next F) m.next 0 ns) F) : CallsVia P f vs m K := by
  refine ⟨F, hn, hl, h.1, fun ρ own w vals a b c d => (h.2 ρ own w vals a b c d).mono ?_⟩
  rintro e w' ⟨r, xs, ns, val, ρ', e1, e2, e3⟩
  exact ⟨r, xs, ns, val, ρ', e1, hK r xs ns e2, e3⟩

/-- A call that is handed no memory. -/
theorem CallsVia.none {P : Program} {f : FuncId} {vs : List AV} {m : Mem} {K : AV → Ups → List Id → Prop} {R : AV → List Blk → List Blk → Prop} (h : ACalls P f (renVs (renIn []) vs) [] R)
    (hK : ∀ r xs ns, R r xs ns → K (renV (renOut m.next []) r) (newUps (renOut m.next []) m.next 0 ns) []) : CallsVia P f vs m K := by
  refine CallsVia.intro [] List.nodup_nil (fun p hp => by cases hp) h fun r xs ns hR => ?_
  simpa [zipUps] using hK r xs ns hR

theorem ACalls.mono {P : Program} {f : FuncId} {vs : List AV} {ms : List Blk} {R R' : AV → List Blk → List Blk → Prop} (h : ACalls P f vs ms R) (hr : ∀ r xs ns, R r xs ns → R' r xs ns) : ACalls P f vs ms R' := by
  refine ⟨h.1, fun ρ own w vals a b c d => (h.2 ρ own w vals a b c d).mono ?_⟩
  rintro e w' ⟨r, xs, ns, val, ρ', e1, e2, e3⟩
  exact ⟨r, xs, ns, val, ρ', e1, hr r xs ns e2, e3⟩

/-- The same in a region that draws its order: the outcome is named. -/
theorem CallsX.intro {P : Program} {f : FuncId} {vs : List AV} {m : Mem} {K : AV → Ups → List Id → Prop} (F : List Id) (hn : F.Nodup) (hl : ∀ p ∈ F, m.get p.1 p.2 ≠ .dead)
    {r : AV} {xs ns : List Blk} (h : ACalls P f (renVs (renIn F) vs) (argBlks m F) (fun r' xs' ns' => r' = r ∧ xs' = xs ∧ ns' = ns))
    (hK : K (renV (renOut m.next F) r) (zipUps (renOut m.next F) F xs ++ newUps (renOut m.next F) m.next 0 ns) F) :
    CallsX P f vs m K :=
  ⟨F, _, _, ⟨hn, hl, h.mono fun r' xs' ns' ⟨e1, e2, e3⟩ => by subst e1; subst e2; subst e3; exact ⟨rfl, rfl⟩⟩, hK⟩

theorem CallsX.none {P : Program} {f : FuncId} {vs : List AV} {m : Mem} {K : AV → Ups → List Id → Prop}
    {r : AV} {ns : List Blk} (h : ACalls P f (renVs (renIn []) vs) [] (fun r' xs' ns' => r' = r ∧ xs' = [] ∧ ns' = ns))
    (hK : K (renV (renOut m.next []) r) (newUps (renOut m.next []) m.next 0 ns) []) :
    CallsX P f vs m K :=
  CallsX.intro [] List.nodup_nil (fun p hp => by cases hp) h (by simpa [zipUps] using hK)

/-! ### loops -/

/-- The round has come to its end: the next one begins in a state of the same form. -/
def LoopNext {α : Type} (E : α → Env) (M : α → Mem) (inv : α → Prop) (meas : α → Nat) (n : Nat) (e : Env) (m : Mem) : Prop :=
  ∃ n' env2 m2, n' < n ∧ Weak e m env2 m2 ∧ ∃ a, inv a ∧ meas a = n' ∧ env2 = E a ∧ m2 = M a

theorem LoopNext.intro {α : Type} {E : α → Env} {M : α → Mem} {inv : α → Prop} {meas : α → Nat} {n : Nat} {e : Env} {m : Mem} (a : α) (hi : inv a) (hn : meas a < n) (hw : Weak e m (E a) (M a)) : LoopNext E M inv meas n e m :=
  ⟨meas a, E a, M a, hn, hw, a, hi, rfl, rfl, rfl⟩

theorem awpLoop.intro {α : Type} (E : α → Env) (M : α → Mem) (inv : α → Prop) (meas : α → Nat) {step : Env → Mem → (Exit → Env → Mem → Prop) → Prop} {env : Env} {m : Mem} {K : Exit → Env → Mem → Prop}
    (a0 : α) (h0 : inv a0) (hw : Weak env m (E a0) (M a0))
    (h : ∀ a, inv a → step (E a) (M a) fun x e' m' => match x with
      | .normal => LoopNext E M inv meas (meas a) e' m'
      | x => K x e' m') : awpLoop step env m K := by
  refine ⟨fun n e m => ∃ a, inv a ∧ meas a = n ∧ e = E a ∧ m = M a, ⟨meas a0, E a0, M a0, hw, a0, h0, rfl, rfl, rfl⟩, ?_⟩
  rintro n e m ⟨a, hi, rfl, rfl, rfl⟩
  exact h a hi

@[congr] theorem LoopNext_congr {tg : Nat} (htg : Tag = tg) {α : Type} {E : α → Env} {M : α → Mem} {inv : α → Prop} {meas : α → Nat} {n : Nat} {e e' : Env} {m m' : Mem} (h1 : e = e') (h2 : m = m') : LoopNext E M inv meas n e m = LoopNext E M inv meas n e' m' := by rw [h1, h2]

@[congr] theorem Fin_congr {tg : Nat} (htg : Tag = tg) {R : AV → List Blk → List Blk → Prop} {m m' : Mem} {v v' : AV} (h1 : m = m') (h2 : v = v') : Abs.Fin R m v = Abs.Fin R m' v' := by rw [h1, h2]

end Go.Abs

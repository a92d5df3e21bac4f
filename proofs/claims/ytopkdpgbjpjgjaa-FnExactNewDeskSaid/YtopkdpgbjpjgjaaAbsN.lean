/-
Bodies and whole functions: the abstract walk is sound.
-/
import Derived.Test.YtopkdpgbjpjgjaaAbsM
namespace Go.Abs
open Go
set_option linter.unusedVariables false
set_option linter.unusedSectionVars false
set_option linter.unusedSimpArgs false
set_option linter.defProp false

theorem invTo : ∀ {σ : List (Id × Id)} {a k : Nat} {q : Id}, (∀ x ∈ σ, x.1.1 ≠ 0) → renTo σ a k = some q → (a = 0 ∧ q = (0, k)) ∨ (a ≠ 0 ∧ ((a, k), q) ∈ σ)
  | [], a, k, q, _, h => by
    simp only [renTo] at h
    split at h
    · simp at h; rename_i h0; exact .inl ⟨h0, h.symm⟩
    · cases h
  | (p, q') :: r, a, k, q, hz, h => by
    simp only [renTo] at h
    split at h
    · simp at h; rename_i h0; exact .inl ⟨h0, h.symm⟩
    · rename_i h0
      split at h
      · rename_i hc
        simp at h
        subst h
        exact .inr ⟨h0, by obtain ⟨e1, e2⟩ := hc; rw [← e1, ← e2]; simp⟩
      · rcases invTo (fun x hx => hz x (by simp [hx])) h with h | ⟨h1, h2⟩
        · exact absurd h.1 h0
        · exact .inr ⟨h1, by simp [h2]⟩

/-- Where a new name comes from. -/
def fromTo (σ : List (Id × Id)) (a k : Nat) : Option Id :=
  match σ with
  | [] => none
  | (p, q) :: r => if q.1 = a ∧ q.2 = k then some p else fromTo r a k

theorem fromTo_mem : ∀ {σ : List (Id × Id)} {a k : Nat} {p : Id}, fromTo σ a k = some p → (p, (a, k)) ∈ σ
  | [], _, _, _, h => by simp [fromTo] at h
  | (p', q) :: r, a, k, p, h => by
    simp only [fromTo] at h
    split at h
    · rename_i hc
      simp at h
      subst h
      obtain ⟨e1, e2⟩ := hc
      rw [← e1, ← e2]; simp
    · exact List.mem_cons_of_mem _ (fromTo_mem h)

theorem fromTo_of_mem : ∀ {σ : List (Id × Id)} {a k : Nat} {p : Id}, (σ.map (·.2)).Nodup → (p, (a, k)) ∈ σ → fromTo σ a k = some p
  | [], _, _, _, _, h => by cases h
  | (p', q) :: r, a, k, p, hn, h => by
    simp only [List.map_cons, List.nodup_cons] at hn
    simp only [fromTo]
    rcases List.mem_cons.1 h with h | h
    · simp only [Prod.mk.injEq] at h
      obtain ⟨rfl, rfl⟩ := h
      simp
    · rw [if_neg]
      · exact fromTo_of_mem hn.2 h
      · rintro ⟨e1, e2⟩
        exact hn.1 (List.mem_map.2 ⟨_, h, Prod.ext e1.symm e2.symm⟩)

theorem wkLoc_get (m : Mem) (τ : Ren) : ∀ (σ : List (Id × Id)) (a k : Nat), assoc (wkLoc m τ σ) a k = match fromTo σ a k with | some p => renBlk τ (m.get p.1 p.2) | none => .dead
  | [], _, _ => rfl
  | (p, q) :: r, a, k => by
    simp only [wkLoc, assoc, fromTo]
    split
    · rfl
    · exact wkLoc_get m τ r a k

theorem least {p : Nat → Prop} (h : ∃ n, p n) : ∃ n, p n ∧ ∀ k, p k → n ≤ k := by
  obtain ⟨n, hn⟩ := h
  induction n using Nat.strongRecOn with
  | _ n ih =>
    by_cases hex : ∃ k, k < n ∧ p k
    · obtain ⟨k, hk, hp⟩ := hex
      exact ih k hk hp
    · refine ⟨n, hn, fun k hk => ?_⟩
      rcases Nat.lt_or_ge k n with h | h
      · exact absurd ⟨k, h, hk⟩ hex
      · exact h

section
variable {P : Program} {own : Nat → Prop} {N n0 : Nat} {ρ0 : Rho} {w0 : World}

theorem lk_mem : ∀ {env : Env} {t : Nat}, lk env t = .top ∨ (t, lk env t) ∈ env
  | [], _ => .inl rfl
  | (u, v) :: r, t => by
    simp only [lk]
    split
    · rename_i h; subst h; exact .inr (by simp)
    · rcases lk_mem (env := r) (t := t) with h | h
      · exact .inl h
      · exact .inr (by simp [h])

theorem wkEnv_mem {σ : List (Id × Id)} {env : Env} : ∀ {env2 : Env}, wkEnv σ env env2 → ∀ x ∈ env2, x.2 = renV (renTo σ) (lk env x.1)
  | [], _, x, h => by cases h
  | (t, v) :: r, ⟨h1, h2⟩, x, h => by
    rcases List.mem_cons.1 h with rfl | h
    · exact h1
    · exact wkEnv_mem h2 x h

theorem weak_sound {ρ : Rho} {env env2 : Env} {m m2 : Mem} {a : Act} {w : World} (s : St ρ own N n0 ρ0 w0 env m a w) (h : Weak env m env2 m2) : ∃ ρ', St ρ' own N n0 ρ0 w0 env2 m2 a w := by
  obtain ⟨σ, hok, henv, hm⟩ := h
  simp only [wkOk, Bool.and_eq_true, List.all_eq_true, bne_iff_ne, ne_eq, decide_eq_true_eq] at hok
  obtain ⟨⟨⟨hall, hn1⟩, hn2⟩, hpos⟩ := hok
  have hz1 : ∀ x ∈ σ, x.1.1 ≠ 0 := fun x hx => (hall x hx).1.1
  have hz2 : ∀ x ∈ σ, x.2.1 ≠ 0 := fun x hx => (hall x hx).1.2
  have hlt : ∀ x ∈ σ, x.2.1 < m2.next := fun x hx => (hall x hx).2
  let ρ' : Rho := fun a k => if a = 0 then ρ 0 k else (fromTo σ a k).bind fun p => ρ p.1 p.2
  have hto : (renTo σ).To ρ ρ' := by
    intro a' k q p h1 h2
    rcases invTo hz1 h1 with ⟨rfl, rfl⟩ | ⟨hne, hmem⟩
    · simp [ρ', h2]
    · have hq := hz2 _ hmem
      simp only at hq
      simp only [ρ']
      rw [if_neg hq, fromTo_of_mem hn2 hmem]
      exact h2
  have hget : ∀ a' k, m2.get a' k = if a' = 0 then renBlk (renTo σ) (m.get 0 k) else match fromTo σ a' k with | some p => renBlk (renTo σ) (m.get p.1 p.2) | none => .dead := by
    intro a' k
    rw [hm]
    by_cases h0 : a' = 0
    · subst h0
      simp only [Mem.get, wkMem, if_true, List.getD_eq_getElem?_getD, List.getElem?_map]
      cases m.args[k]? <;> rfl
    · simp only [Mem.get, wkMem, if_neg h0]
      exact wkLoc_get m _ σ a' k
  have live : ∀ a' k rw_ gs, m2.get a' k = .lv rw_ gs → ∃ (p : Id) (gs0 : Segs), m.get p.1 p.2 = .lv rw_ gs0 ∧ gs = renSegs (renTo σ) gs0 ∧ ρ' a' k = ρ p.1 p.2 ∧ ((a' = 0 ∧ p = (0, k)) ∨ (a' ≠ 0 ∧ (p, (a', k)) ∈ σ)) := by
    intro a' k rw_ gs hg
    rw [hget] at hg
    split at hg
    · rename_i h0
      obtain ⟨gs0, h1, h2⟩ := renBlk_live hg
      exact ⟨(0, k), gs0, h1, h2, by simp [ρ', h0], .inl ⟨h0, rfl⟩⟩
    · rename_i h0
      split at hg
      · rename_i p hp
        obtain ⟨gs0, h1, h2⟩ := renBlk_live hg
        exact ⟨p, gs0, h1, h2, by simp [ρ', h0, hp], .inr ⟨h0, fromTo_mem hp⟩⟩
      · cases hg
  refine ⟨ρ', ?_, ⟨fun a' k rw_ gs hg => ?_, fun a1 k1 a2 k2 g1 g2 p1 p2 x1 x2 y1 y2 e => ?_, fun a' k p hp => ?_, fun a' k rw_ gs ha hg => ?_⟩, fun x k hx => ?_, hpos, s.ownf, s.size, s.defers, fun k => by simp [ρ', s.base], ?_, s.kept⟩
  · intro t
    rcases lk_mem (env := env2) (t := t) with h | h
    · rw [h]; simp [RelV]
    · have := wkEnv_mem henv _ h
      simp only at this
      rw [this]
      exact RelV.ren hto (s.env t)
  · obtain ⟨p, gs0, h1, rfl, h3, _⟩ := live a' k rw_ gs hg
    obtain ⟨q, fz, e1, e2, e3, e4⟩ := s.mem.holds _ _ _ _ h1
    exact ⟨q, fz, by rw [h3]; exact e1, e2.ren hto, e3, e4⟩
  · obtain ⟨q1, gs1, h1, _, h3, h4⟩ := live a1 k1 true g1 x1
    obtain ⟨q2, gs2, h1', _, h3', h4'⟩ := live a2 k2 true g2 x2
    rw [h3] at y1
    rw [h3'] at y2
    have hq := s.mem.apart _ _ _ _ _ _ _ _ h1 h1' y1 y2 e
    have hq' : q1 = q2 := Prod.ext hq.1 hq.2
    subst hq'
    rcases h4 with ⟨rfl, rfl⟩ | ⟨hne, hmem⟩
    · rcases h4' with ⟨rfl, h5⟩ | ⟨hne', hmem'⟩
      · simp at h5; exact ⟨rfl, h5⟩
      · exact absurd rfl (hz1 _ hmem')
    · rcases h4' with ⟨rfl, rfl⟩ | ⟨hne', hmem'⟩
      · exact absurd rfl (hz1 _ hmem)
      · have : ∀ {σ : List (Id × Id)} {p q q' : Id}, (σ.map (·.1)).Nodup → (p, q) ∈ σ → (p, q') ∈ σ → q = q' := by
          intro σ
          induction σ with
          | nil => intro p q q' _ h; cases h
          | cons x r ih =>
            intro p q q' hn h h'
            simp only [List.map_cons, List.nodup_cons] at hn
            rcases List.mem_cons.1 h with h | h <;> rcases List.mem_cons.1 h' with h' | h'
            · rw [← h'] at h; exact (Prod.mk.inj h).2
            · exact absurd (List.mem_map.2 ⟨_, h', by rw [← h]⟩) hn.1
            · exact absurd (List.mem_map.2 ⟨_, h, by rw [← h']⟩) hn.1
            · exact ih hn.2 h h'
        have := this hn1 hmem hmem'
        simp at this
        exact this
  · simp only [ρ'] at hp
    split at hp
    · exact s.mem.there _ _ _ hp
    · cases hf : fromTo σ a' k with
      | none => simp [hf] at hp
      | some q => simp [hf] at hp; exact s.mem.there _ _ _ hp
  · obtain ⟨p, gs0, h1, _, _, h4⟩ := live a' k rw_ gs hg
    rcases h4 with ⟨h0, _⟩ | ⟨_, hmem⟩
    · exact absurd h0 ha
    · exact s.mem.rws _ _ _ _ (hz1 _ hmem) h1
  · simp only [ρ']
    have hx0 : x ≠ 0 := by omega
    rw [if_neg hx0]
    cases hf : fromTo σ x k with
    | none => rfl
    | some q =>
      have := hlt _ (fromTo_mem hf)
      simp only at this
      omega
  · rw [hm]; simp [wkMem, s.args]

theorem awp_sound (hmix : P.follows .mixedOrders = true) : ∀ (c : Code) (ρ : Rho) (env : Env) (m : Mem) (a : Act) (w : World) (K : Exit → Env → Mem → Prop) (Q : Exit → Act → World → Prop), codeOk N c = true →
    (∀ x ρ env m a w, St ρ own N n0 ρ0 w0 env m a w → K x env m → Q x a w) → St ρ own N n0 ρ0 w0 env m a w → awp P c env m K → c.wp P Q a w := by
  intro c
  induction c with
  | skip => intro ρ env m a w K Q _ hQ s hk; exact wp_skip (hQ _ _ _ _ _ _ s hk)
  | region id ops draw =>
    intro ρ env m a w K Q hok hQ s hk
    simp only [codeOk, Bool.and_eq_true] at hok
    simp only [awp] at hk
    cases draw with
    | false =>
      have := aops_seq (Q := Q) (fun ρ env m a w s hk => hQ _ _ _ _ _ _ s hk) ops.toList 0 [] ρ env m a w s hok.1 hk
      exact wp_region_list (by simpa using this)
    | true =>
      have h2 : slotsOk ops.toList = true ∧ edgesOk ops.toList = true := by simpa using hok.2
      have s' : St ρ own N n0 ρ0 w0 env m a { w with drawn := w.drawn + 1 } :=
        ⟨s.env, s.mem.world rfl, s.fresh, s.nz, s.ownf, s.size, s.defers, s.base, s.args, s.kept.trans (Kept.draw own w _)⟩
      have := aops_draw (Q := Q) (all := ops.toList) hok.1 h2.1 h2.2 (fun ρ env m a w s hk => hQ _ _ _ _ _ _ s hk) s' hk
      exact wp_region_any hmix (by simpa using this)
  | seq x y ihx ihy =>
    intro ρ env m a w K Q hok hQ s hk
    simp only [codeOk, Bool.and_eq_true] at hok
    simp only [awp] at hk
    refine wp_seq (ihx ρ env m a w _ _ hok.1 ?_ s hk)
    intro e ρ env m a w s hk
    cases e with
    | normal => exact ihy ρ env m a w K Q hok.2 hQ s hk
    | exit id => exact hQ _ _ _ _ _ _ s hk
    | goto l => exact hQ _ _ _ _ _ _ s hk
    | ret => exact hQ _ _ _ _ _ _ s hk
    | panic ch => exact hQ _ _ _ _ _ _ s hk
    | outgrown => exact hQ _ _ _ _ _ _ s hk
  | cond c' x y ihx ihy =>
    intro ρ env m a w K Q hok hQ s hk
    simp only [codeOk, Bool.and_eq_true] at hok
    simp only [awp] at hk
    split at hk
    · rename_i b e
      have hv := aev_sound s.env c'
      rw [e] at hv
      simp only [RelV] at hv
      cases b with
      | true => exact wp_cond_true hv (ihx ρ env m a w K Q hok.1 hQ s (by simpa using hk))
      | false => exact wp_cond_false hv (ihy ρ env m a w K Q hok.2 hQ s (by simpa using hk))
    · exact hk.elim
  | block id body ih =>
    intro ρ env m a w K Q hok hQ s hk
    simp only [codeOk] at hok
    simp only [awp] at hk
    refine wp_block (ih ρ env m a w _ _ hok ?_ s hk)
    intro e ρ env m a w s hk
    cases e with
    | normal => exact hQ _ _ _ _ _ _ s hk
    | exit j =>
      simp only [Exit.inBlock]
      simp only at hk
      split at hk
      · rename_i hc; rw [if_pos hc]; exact hQ _ _ _ _ _ _ s hk
      · rename_i hc; rw [if_neg hc]; exact hQ _ _ _ _ _ _ s hk
    | goto l => exact hQ _ _ _ _ _ _ s hk
    | ret => exact hQ _ _ _ _ _ _ s hk
    | panic ch => exact hQ _ _ _ _ _ _ s hk
    | outgrown => exact hQ _ _ _ _ _ _ s hk
  | loop body ih =>
    intro ρ env m a w K Q hok hQ s hk
    simp only [codeOk] at hok
    simp only [awp] at hk
    obtain ⟨I, ⟨n, env2, m2, hw, hi⟩, hround⟩ := hk
    let J : Act → World → Nat → Prop := fun a w n => ∃ ρ env m, St ρ own N n0 ρ0 w0 env m a w ∧ I n env m
    have hJ : ∃ n, J a w n := by
      obtain ⟨ρ', s'⟩ := weak_sound s hw
      exact ⟨n, ρ', env2, m2, s', hi⟩
    classical
    refine wp_loop (fun a w => ∃ n, J a w n) (fun a w => if h : ∃ n, J a w n then Classical.choose (least h) else 0) hJ ?_
    intro a' w' hex
    obtain ⟨⟨ρ1, env1, m1, s1, hi1⟩, hmin⟩ := Classical.choose_spec (least hex)
    refine ih ρ1 env1 m1 a' w' _ _ hok ?_ s1 (hround _ env1 m1 hi1)
    intro e ρ env m a w s hk
    cases e with
    | normal =>
      obtain ⟨n', env3, m3, hlt, hw', hi'⟩ := hk
      obtain ⟨ρ', s'⟩ := weak_sound s hw'
      have hJ' : ∃ n, J a w n := ⟨n', ρ', env3, m3, s', hi'⟩
      refine ⟨hJ', ?_⟩
      rw [dif_pos hJ', dif_pos hex]
      exact Nat.lt_of_le_of_lt ((Classical.choose_spec (least hJ')).2 _ ⟨ρ', env3, m3, s', hi'⟩) hlt
    | exit id => exact hQ _ _ _ _ _ _ s hk
    | goto l => exact hQ _ _ _ _ _ _ s hk
    | ret => exact hQ _ _ _ _ _ _ s hk
    | panic ch => exact hQ _ _ _ _ _ _ s hk
    | outgrown => exact hQ _ _ _ _ _ _ s hk
  | exit id => intro ρ env m a w K Q _ hQ s hk; exact wp_exit (hQ _ _ _ _ _ _ s hk)
  | ret => intro ρ env m a w K Q _ hQ s hk; exact wp_ret (hQ _ _ _ _ _ _ s hk)
  | _ => intro ρ env m a w K Q _ hQ s hk; simp only [awp] at hk

/-! ### results, and a whole function -/

def resSem (tmps : Array Value) (r : ResultVar) : Sem Value :=
  match r with
  | .tmp t => pure (tmps.getD t undef)
  | .cell t ty => do loadVar ty (← asAddr (tmps.getD t undef))

theorem results_eq (fn : Func) (tmps : Array Value) : results fn tmps = (do
    let vs ← fn.results.mapM (resSem tmps)
    pure (if h : vs.size = 1 then vs[0] else .tuple vs)) := by
  unfold results
  congr 2

theorem ares_sound {ρ : Rho} {env : Env} {m : Mem} {a : Act} {w : World} {r : ResultVar} {K : AV → Prop} (s : St ρ own N n0 ρ0 w0 env m a w) (h : ares P env m K r) :
    ∃ v val, K v ∧ RelV ρ v val ∧ (resSem a.tmps r).run P w = .ok val w := by
  cases r with
  | tmp t => exact ⟨_, _, h, s.env t, rfl⟩
  | cell t ty =>
    simp only [ares] at h
    obtain ⟨v, rd, h1, _, ad, val, h2, h3, h4⟩ := ok_load (P := P) (o := { dst := none, op := .load ty (.tmp t), type := ty, pos := "", after := #[], guard := none }) s.ctx rfl h
    refine ⟨v, val, h1, h4, ?_⟩
    have h2' : a.tmps.getD t undef = .pointer (some ad) := h2
    simp only [resSem, h2', asAddr, Sem.run_bind, Sem.run_pure, Result.andThen_ok, h3]

theorem aress_sound {ρ : Rho} {env : Env} {m : Mem} {a : Act} {w : World} (s : St ρ own N n0 ρ0 w0 env m a w) : ∀ {rs : List ResultVar} {K : List AV → Prop}, aress P env m rs K →
    ∃ vs vals, K vs ∧ RelVs ρ vs vals ∧ vals.length = rs.length ∧ (rs.mapM (resSem a.tmps) : Sem (List Value)).run P w = .ok vals w
  | [], K, h => ⟨[], [], h, by simp [RelVs], rfl, rfl⟩
  | r :: rs, K, h => by
    simp only [aress] at h
    obtain ⟨v, val, h1, h2, h3⟩ := ares_sound s h
    obtain ⟨vs, vals, h4, h5, h6, h7⟩ := aress_sound s h1
    refine ⟨v :: vs, val :: vals, h4, by simp only [RelVs]; exact ⟨val, vals, rfl, h2, h5⟩, by simp [h6], ?_⟩
    simp only [List.mapM_cons, Sem.run_bind, h3, Result.andThen_ok, h7, Sem.run_pure]

theorem results_sound {fn : Func} {ρ : Rho} {env : Env} {m : Mem} {a : Act} {w : World} {K : List AV → Prop} (s : St ρ own N n0 ρ0 w0 env m a w) (h : aress P env m fn.results.toList K) :
    ∃ vs val, K vs ∧ RelV ρ (tupOf vs) val ∧ (results fn a.tmps).run P w = .ok val w := by
  obtain ⟨vs, vals, h1, h2, h3, h4⟩ := aress_sound s h
  have hrun : (results fn a.tmps).run P w = .ok (if h : vals.toArray.size = 1 then vals.toArray[0] else .tuple vals.toArray) w := by
    rw [results_eq, Array.mapM_eq_mapM_toList]
    simp [h4]
  refine ⟨vs, _, h1, ?_, hrun⟩
  cases vs with
  | nil => simp only [RelVs] at h2; subst h2; simp only [tupOf]; simp [RelV, RelVs]
  | cons v r =>
    simp only [RelVs] at h2
    obtain ⟨u, l', rfl, h5, h6⟩ := h2
    cases r with
    | nil => simp only [RelVs] at h6; subst h6; simpa [tupOf] using h5
    | cons v' r' =>
      simp only [RelVs] at h6
      obtain ⟨u', l2, rfl, h7, h8⟩ := h6
      simp only [tupOf, List.size_toArray, List.length_cons]
      rw [dif_neg (by omega)]
      simp only [RelV, RelVs]
      exact ⟨_, rfl, u, _, rfl, h5, u', l2, rfl, h7, h8⟩

theorem params_rel {ρ : Rho} : ∀ {vs : List AV} {vals : List Value} (pre : List Value) (post : List Value), RelVs ρ vs vals → ∀ t, RelV ρ (lk (params pre.length vs) t) ((pre ++ vals ++ post).getD t undef)
  | [], vals, pre, post, h, t => by simp [params, lk, RelV]
  | v :: r, vals, pre, post, h, t => by
    simp only [RelVs] at h
    obtain ⟨u, l', rfl, h1, h2⟩ := h
    simp only [params, lk]
    split
    · rename_i ht
      subst ht
      simpa using h1
    · have := params_rel (pre ++ [u]) post h2 t
      simpa using this

theorem fin_sound {R : AV → List Blk → List Blk → Prop} {ρ : Rho} {m : Mem} {w : World} {r : AV} {val : Value} (hM : MemRel ρ own m.get w) (hr : RelV ρ r val) (h : Fin R m r) :
    ∃ r' as ns ρ', R r' as ns ∧ as.length = m.args.length ∧ RelV ρ' r' val ∧ MemRel ρ' own (getOut as ns) w ∧ (∀ k, ρ' 0 k = ρ 0 k) ∧ (∀ a k, 2 ≤ a → ρ' a k = none) := by
  obtain ⟨keep, hnd, hz, hR⟩ := h
  let ρ' : Rho := fun a k => if a = 0 then ρ 0 k else if a = 1 then (keep[k]?).bind fun p => ρ p.1 p.2 else none
  have hto : (renFin keep).To ρ ρ' := by
    intro a' k q p h1 h2
    simp only [renFin] at h1
    split at h1
    · rename_i h0; subst h0; simp at h1; subst h1; simp [ρ', h2]
    · cases hi : idx keep a' k with
      | none => simp [hi] at h1
      | some j => simp [hi] at h1; subst h1; simp [ρ', idx_lt hi, h2]
  have live : ∀ a' k rw_ gs, getOut (m.args.map (renBlk (renFin keep))) (keep.map fun p => renBlk (renFin keep) (m.get p.1 p.2)) a' k = .lv rw_ gs →
      ∃ (p : Id) (gs0 : Segs), m.get p.1 p.2 = .lv rw_ gs0 ∧ gs = renSegs (renFin keep) gs0 ∧ ρ' a' k = ρ p.1 p.2 ∧ ((a' = 0 ∧ p = (0, k)) ∨ (a' = 1 ∧ keep[k]? = some p)) := by
    intro a' k rw_ gs hg
    simp only [getOut] at hg
    split at hg
    · rename_i h0
      simp only [List.getD_eq_getElem?_getD, List.getElem?_map] at hg
      cases hq : m.args[k]? with
      | none => simp [hq] at hg
      | some b =>
        simp only [hq, Option.map_some, Option.getD_some] at hg
        obtain ⟨gs0, h1, h2⟩ := renBlk_live hg
        exact ⟨(0, k), gs0, by simp [Mem.get, hq, h1], h2, by simp [ρ', h0], .inl ⟨h0, rfl⟩⟩
    · split at hg
      · rename_i h0 h1
        simp only [List.getD_eq_getElem?_getD, List.getElem?_map] at hg
        cases hq : keep[k]? with
        | none => simp [hq] at hg
        | some p =>
          simp only [hq, Option.map_some, Option.getD_some] at hg
          obtain ⟨gs0, h2, h3⟩ := renBlk_live hg
          exact ⟨p, gs0, h2, h3, by simp [ρ', h1, hq], .inr ⟨h1, rfl⟩⟩
      · cases hg
  refine ⟨_, _, _, ρ', hR, by simp, RelV.ren hto hr, ⟨fun a' k rw_ gs hg => ?_, fun a1 k1 a2 k2 g1 g2 p1 p2 x1 x2 y1 y2 e => ?_, fun a' k p hp => ?_, fun a' k rw_ gs ha hg => ?_⟩, fun k => by simp [ρ'], fun a' k h2 => ?_⟩
  · obtain ⟨p, gs0, h1, rfl, h3, _⟩ := live a' k rw_ gs hg
    obtain ⟨q, fz, e1, e2, e3, e4⟩ := hM.holds _ _ _ _ h1
    exact ⟨q, fz, by rw [h3]; exact e1, e2.ren hto, e3, e4⟩
  · obtain ⟨q1, gs1, h1, _, h3, h4⟩ := live a1 k1 true g1 x1
    obtain ⟨q2, gs2, h1', _, h3', h4'⟩ := live a2 k2 true g2 x2
    rw [h3] at y1
    rw [h3'] at y2
    have hq := hM.apart _ _ _ _ _ _ _ _ h1 h1' y1 y2 e
    have hq' : q1 = q2 := Prod.ext hq.1 hq.2
    subst hq'
    rcases h4 with ⟨rfl, rfl⟩ | ⟨rfl, hmem⟩
    · rcases h4' with ⟨rfl, h5⟩ | ⟨rfl, hmem'⟩
      · simp at h5; exact ⟨rfl, h5⟩
      · exact absurd rfl (hz _ (List.mem_of_getElem? hmem'))
    · rcases h4' with ⟨rfl, rfl⟩ | ⟨rfl, hmem'⟩
      · exact absurd rfl (hz _ (List.mem_of_getElem? hmem))
      · have i1 := idx_of_get (a := q1.1) (k := q1.2) hnd hmem
        have i2 := idx_of_get (a := q1.1) (k := q1.2) hnd hmem'
        rw [i1] at i2
        exact ⟨rfl, Option.some.inj i2⟩
  · simp only [ρ'] at hp
    split at hp
    · exact hM.there _ _ _ hp
    · split at hp
      · cases hf : keep[k]? with
        | none => simp [hf] at hp
        | some q => simp [hf] at hp; exact hM.there _ _ _ hp
      · cases hp
  · obtain ⟨p, gs0, h1, _, _, h4⟩ := live a' k rw_ gs hg
    rcases h4 with ⟨h0, _⟩ | ⟨_, hmem⟩
    · exact absurd h0 ha
    · exact hM.rws _ _ _ _ (hz _ (List.mem_of_getElem? hmem)) h1
  · simp only [ρ']
    rw [if_neg (by omega), if_neg (by omega)]

/-- **THE ABSTRACT WALK IS SOUND.** -/
theorem acalls_of_body (hmix : P.follows .mixedOrders = true) {f : FuncId} {fn : Func} {c : Code} {vs : List AV} {ms : List Blk} {R : AV → List Blk → List Blk → Prop} (hf : P.funcs[f]? = some fn) (hb : fn.body = some c)
    (hok : funOk fn = true) (hvs : vs.length ≤ fn.ntmps) (h : abody P c fn.results.toList vs ms R) : ACalls P f vs ms R := by
  unfold funOk at hok
  rw [hb] at hok
  simp only [Bool.and_eq_true] at hok
  obtain ⟨⟨hcode, hname⟩, _⟩ := hok
  refine ⟨⟨fn, c, hf, hb, by simpa using hname⟩, ?_⟩
  intro ρ own w vals hρ hown hM hrel
  have hlen : vals.length = vs.length := by
    have : ∀ {vs : List AV} {vals : List Value}, RelVs ρ vs vals → vals.length = vs.length := by
      intro vs
      induction vs with
      | nil => intro vals h; simp only [RelVs] at h; subst h; rfl
      | cons v r ih => intro vals h; simp only [RelVs] at h; obtain ⟨u, l', rfl, _, h2⟩ := h; simp [ih h2]
    exact this hrel
  refine calls_of_wp hf hb ?_
  have hM' : MemRel ρ (fun b => own b ∨ w.heap.size ≤ b) (getArgs ms) w :=
    ⟨fun a k rw_ gs hg => by
      obtain ⟨p, fz, h1, h2, h3, h4⟩ := hM.holds a k rw_ gs hg
      refine ⟨p, fz, h1, h2, fun hr => ⟨(h3 hr).1, .inl (h3 hr).2⟩, fun hr ho => ?_⟩
      rcases ho with ho | ho
      · exact h4 hr ho
      · obtain ⟨arr, T, fz', h5, _⟩ := hM.there a k p h1
        have := (Array.getElem?_eq_some_iff.1 h5).1
        omega, hM.apart, hM.there, hM.rws⟩
  have hget : ({ args := ms, loc := [], next := 1 } : Mem).get = getArgs ms := by
    funext a k
    simp only [Mem.get, getArgs]
    split <;> rfl
  have s : St ρ (fun b => own b ∨ w.heap.size ≤ b) fn.ntmps ms.length ρ w (params 0 vs) { args := ms, loc := [], next := 1 } { tmps := vals.toArray ++ Array.replicate (fn.ntmps - vals.toArray.size) undef, defers := [] } w := by
    refine ⟨fun t => ?_, by rw [hget]; exact hM', fun x k hx => hρ x k (by have : 1 ≤ x := hx; omega), Nat.one_pos, fun b hb => .inr hb, by simp; omega, rfl, fun _ => rfl, rfl, Kept.refl _ w⟩
    have := params_rel (ρ := ρ) [] (List.replicate (fn.ntmps - vals.length) undef) hrel t
    simp only [List.nil_append, List.length_nil] at this
    have e : (vals.toArray ++ Array.replicate (fn.ntmps - vals.toArray.size) undef).getD t undef = (vals ++ List.replicate (fn.ntmps - vals.length) undef).getD t undef := by
      rw [Array.getD_eq_getD_getElem?, List.getD_eq_getElem?_getD, ← Array.getElem?_toList]
      simp
    rw [e]
    exact this
  refine awp_sound hmix c ρ _ _ _ w _ _ hcode ?_ s h
  intro x ρ1 env m a w1 s1 hk
  have fin : aress P env m fn.results.toList (fun vs => Fin R m (tupOf vs)) → a.defers = [] ∧ ∃ v, (results fn a.tmps).run P w1 = .ok v w1 ∧
      ∃ r as ns val ρ', Ending.returned v = .returned val ∧ R r as ns ∧ as.length = ms.length ∧ RelV ρ' r val ∧ MemRel ρ' (fun b => own b ∨ w.heap.size ≤ b) (getOut as ns) w1 ∧ (∀ k, ρ' 0 k = ρ 0 k) ∧ (∀ a k, 2 ≤ a → ρ' a k = none) ∧ Kept own w w1 := by
    intro hk
    obtain ⟨vs', val, h1, h2, h3⟩ := results_sound s1 hk
    obtain ⟨r', as, ns, ρ', g1, g2, g3, g4, g5, g6⟩ := fin_sound s1.mem h2 h1
    exact ⟨s1.defers, val, h3, r', as, ns, val, ρ', rfl, g1, g2.trans s1.args, g3, g4, fun k => (g5 k).trans (s1.base k), g6, s1.kept.mono (fun b hb ho => ho.elim id (fun h => by omega))⟩
  cases x with
  | normal => exact fin hk
  | ret => exact fin hk
  | exit id => exact hk.elim
  | goto l => exact hk.elim
  | panic ch => exact hk.elim
  | outgrown => exact hk.elim
end
end Go.Abs
#print axioms Go.Abs.acalls_of_body

/-
Regions: in the order of the text, and in whatever order the tape picks.
-/
import Derived.Test.YtopkdpgbjpjgjaaAbsK
namespace Go.Abs
open Go
set_option linter.unusedVariables false
set_option linter.unusedSectionVars false
set_option linter.unusedSimpArgs false
set_option linter.defProp false

structure St (ρ : Rho) (own : Nat → Prop) (N n0 : Nat) (ρ0 : Rho) (w0 : World) (env : Env) (m : Mem) (a : Act) (w : World) : Prop where
  env : RelE ρ env a
  mem : MemRel ρ own m.get w
  fresh : ∀ x k, m.next ≤ x → ρ x k = none
  nz : 0 < m.next
  ownf : ∀ b, w.heap.size ≤ b → own b
  size : a.tmps.size = N
  defers : a.defers = []
  base : ∀ k, ρ 0 k = ρ0 0 k
  args : m.args.length = n0
  kept : Kept own w0 w

section
variable {P : Program} {ρ : Rho} {own : Nat → Prop} {N n0 : Nat} {ρ0 : Rho} {w0 : World} {env : Env} {m : Mem} {a : Act} {w : World}

theorem St.ctx (s : St ρ own N n0 ρ0 w0 env m a w) : Ctx ρ own env m a w :=
  ⟨s.env, s.mem, fun k => s.fresh _ k (Nat.le_refl _), by have := s.nz; omega, s.ownf⟩

theorem RelE.put {ρ' : Rho} {dst : Option Tmp} {v : AV} {val : Value} (h : RelE ρ env a) (hle : Le ρ ρ') (hd : ∀ d, dst = some d → d < a.tmps.size) (hv : RelV ρ' v val) : RelE ρ' (setD env dst v) (a.put dst val) := by
  intro t
  cases dst with
  | none => exact (h t).mono hle
  | some d =>
    have := hd d rfl
    simp only [setD, lk, Act.put]
    by_cases hc : d = t
    · subst hc
      rw [if_pos rfl]
      simpa [Array.getD, this] using hv
    · rw [if_neg hc]
      have e : (a.tmps.setIfInBounds d val).getD t undef = a.tmps.getD t undef := by
        simp only [Array.getD_eq_getD_getElem?]
        rw [Array.getElem?_setIfInBounds_ne hc]
      rw [e]
      exact (h t).mono hle

theorem put_size (a : Act) (dst : Option Tmp) (v : Value) : (a.put dst v).tmps.size = a.tmps.size := by cases dst <;> simp [Act.put]
theorem put_defers (a : Act) (dst : Option Tmp) (v : Value) : (a.put dst v).defers = a.defers := by cases dst <;> rfl

theorem St.step {o : Oper} {ups : Ups} {v : AV} {val : Value} {w' : World} {ρ' : Rho} (s : St ρ own N n0 ρ0 w0 env m a w) (hd : ∀ d, o.dst = some d → d < N) (hu : ∀ x ∈ ups, x.1.1 = 0 → x.1.2 < m.args.length)
    (h : After ρ own m ups v w val w' ρ') : St ρ' own N n0 ρ0 w0 (setD env o.dst v) (m.upd ups).tick (a.put o.dst val) w' := by
  refine ⟨s.env.put h.le (fun d hh => by rw [s.size]; exact hd d hh) h.val, ?_, fun x k hx => ?_, by simp [Mem.tick], fun b hb => s.ownf b (Nat.le_trans h.kept.grows hb), ?_, ?_, fun k => ?_, ?_, s.kept.trans h.kept⟩
  · rw [Mem.get_tick, Mem.get_upd _ _ hu]; exact h.mem
  · simp only [Mem.tick, Mem.upd_next] at hx
    rw [h.only x k (by omega)]
    exact s.fresh x k (by omega)
  · rw [put_size]; exact s.size
  · rw [put_defers]; exact s.defers
  · rw [h.only 0 k (by have := s.nz; omega)]; exact s.base k
  · simp only [Mem.tick, Mem.upd_args]; exact s.args

theorem St.skip {o : Oper} (s : St ρ own N n0 ρ0 w0 env m a w) (hd : ∀ d, o.dst = some d → d < N) : St ρ own N n0 ρ0 w0 (setD env o.dst (.tup [])) m.tick (a.put o.dst undef) w :=
  s.step (ups := []) (v := .tup []) hd (by simp) ⟨Le.refl ρ, fun _ _ _ => rfl, by simp [RelV, RelVs, undef], s.mem, Kept.refl own w⟩

theorem yielded_of (h : RelE ρ env a) {all : List Oper} {g t : Nat} {x : Bool} (h1 : dstOf all g = some t) (h2 : lk env t = .b x) : yielded all.toArray a.tmps g = some x := by
  have h3 := h t
  rw [h2] at h3
  simp only [RelV] at h3
  unfold dstOf at h1
  unfold yielded
  have e : ((all.toArray)[g]?).bind (·.dst) = some t := by simpa using h1
  rw [e]
  simp only [Option.bind_some]
  rw [Array.getD_eq_getD_getElem?] at h3
  cases hq : a.tmps[t]? with
  | none => rw [hq] at h3; simp [undef] at h3
  | some u => rw [hq] at h3; simp at h3; subst h3; rfl

theorem yielded_none (h : RelE ρ env a) {all : List Oper} {g t : Nat} (h1 : dstOf all g = some t) (h2 : lk env t = .tup []) : yielded all.toArray a.tmps g = none := by
  have h3 := h t
  rw [h2] at h3
  simp only [RelV, RelVs] at h3
  obtain ⟨l, h3, h4⟩ := h3
  subst h4
  unfold dstOf at h1
  unfold yielded
  have e : ((all.toArray)[g]?).bind (·.dst) = some t := by simpa using h1
  rw [e]
  simp only [Option.bind_some]
  rw [Array.getD_eq_getD_getElem?] at h3
  cases hq : a.tmps[t]? with
  | none => rfl
  | some u => rw [hq] at h3; simp at h3; subst h3; rfl

theorem dsts_cons {N : Nat} {o : Oper} {l : List Oper} (h : dstsOk N (o :: l) = true) : (∀ d, o.dst = some d → d < N) ∧ dstsOk N l = true := by
  simp only [dstsOk, List.all_cons, Bool.and_eq_true] at h
  exact ⟨fun d hd => by have := h.1; rw [hd] at this; simpa using this, h.2⟩

theorem aops_seq {Q : Exit → Act → World → Prop} {all : List Oper} {K : Env → Mem → Prop} (hQ : ∀ ρ env m a w, St ρ own N n0 ρ0 w0 env m a w → K env m → Q .normal a w) :
    ∀ (l : List Oper) (j : Nat) (h : Hist) (ρ : Rho) (env : Env) (m : Mem) (a : Act) (w : World), St ρ own N n0 ρ0 w0 env m a w → dstsOk N l = true → aops P false all l j h env m K → wpList P all.toArray Q l a w
  | [], j, h, ρ, env, m, a, w, s, _, hk => hQ ρ env m a w s hk
  | o :: rest, j, h, ρ, env, m, a, w, s, hd, hk => by
    obtain ⟨hd1, hd2⟩ := dsts_cons hd
    simp only [aops, aopX, Bool.false_eq_true, if_false] at hk
    have go : aop P o.op env m (fun v ups rd => aops P false all rest (j + 1) h (setD env o.dst v) (m.upd ups).tick K) → o.wp P a w (wpList P all.toArray Q rest) Q := by
      intro hk
      exact aop_sound s.ctx hk _ _ fun v ups rd val w' ρ' h1 h2 h3 => aops_seq hQ rest (j + 1) h ρ' _ _ _ _ (s.step hd1 h2 h3) hd2 h1
    unfold wpList
    split at hk
    · rename_i hg
      rw [if_pos (by simp [Region.wanted, hg])]
      exact .inl (go hk)
    · rename_i g want hg
      split at hk
      · rename_i t ht
        split at hk
        · rename_i x hx
          have hy := yielded_of s.env ht hx
          by_cases hc : x = want
          · rw [if_pos hc] at hk
            rw [if_pos (by simp [Region.wanted, hg, hy, hc])]
            exact .inl (go hk)
          · rw [if_neg hc] at hk
            rw [if_neg (by simp [Region.wanted, hg, hy, hc])]
            exact aops_seq hQ rest (j + 1) h ρ _ _ _ _ (s.skip hd1) hd2 hk
        · rename_i hx
          have hy := yielded_none s.env ht hx
          rw [if_neg (by simp [Region.wanted, hg, hy])]
          exact aops_seq hQ rest (j + 1) h ρ _ _ _ _ (s.skip hd1) hd2 hk
        · exact hk.elim
      · exact hk.elim

/-! ### whatever order -/

abbrev Out3 := AV × Ups × List Id

def Cond (all : List Oper) (x : Out3) (wr rd : List Id) (i j : Nat) : Prop :=
  ((disj (idsU x.2.1) rd && disj (idsU x.2.1) wr && disj x.2.2 wr) || ordB all i j) = true

def Stepped (P : Program) (all : List Oper) (o : Oper) (env : Env) (m : Mem) (x : Out3) : Prop :=
  match o.guard with
  | none => Out P o.op env m x.1 x.2.1 x.2.2
  | some (g, want) => ∃ t, dstOf all g = some t ∧ ((∃ b, lk env t = .b b ∧ if b = want then Out P o.op env m x.1 x.2.1 x.2.2 else x = (.tup [], [], [])) ∨ (lk env t = .tup [] ∧ x = (.tup [], [], [])))

def DF (P : Program) (all : List Oper) (K : Env → Mem → Prop) : List Oper → Nat → List Out3 → Env → Mem → Prop
  | [], _, _, env, m => K env m
  | o :: rest, j, outs, env, m => ∃ x, outs[j]? = some x ∧ Stepped P all o env m x ∧ (∀ i y, i < j → outs[i]? = some y → Cond all y (idsU x.2.1) x.2.2 i j) ∧
      DF P all K rest (j + 1) outs (setD env o.dst x.1) (m.upd x.2.1).tick

theorem drun {all : List Oper} {K : Env → Mem → Prop} : ∀ (l : List Oper) (h : Hist) (env : Env) (m : Mem) (outs0 : List Out3),
    (∀ j wr rd, chk all j wr rd h → ∀ i y, outs0[i]? = some y → Cond all y wr rd i j) → aops P true all l outs0.length h env m K →
    ∃ outs : List Out3, (∀ i, i < outs0.length → outs[i]? = outs0[i]?) ∧ outs.length = outs0.length + l.length ∧ DF P all K l outs0.length outs env m
  | [], h, env, m, outs0, _, hk => ⟨outs0, fun _ _ => rfl, by simp, hk⟩
  | o :: rest, h, env, m, outs0, hh, hk => by
    have push : ∀ (x : Out3) (h' : Hist), (∀ j wr rd, chk all j wr rd h' → ∀ i y, (outs0 ++ [x])[i]? = some y → Cond all y wr rd i j) → Stepped P all o env m x → (∀ i y, i < outs0.length → outs0[i]? = some y → Cond all y (idsU x.2.1) x.2.2 i outs0.length) →
        aops P true all rest (outs0.length + 1) h' (setD env o.dst x.1) (m.upd x.2.1).tick K →
        ∃ outs : List Out3, (∀ i, i < outs0.length → outs[i]? = outs0[i]?) ∧ outs.length = outs0.length + (o :: rest).length ∧ DF P all K (o :: rest) outs0.length outs env m := by
      intro x h' hh' hst hc hk'
      obtain ⟨outs, h1, h2, h3⟩ := drun rest h' (setD env o.dst x.1) (m.upd x.2.1).tick (outs0 ++ [x]) hh' (by simpa using hk')
      have hx : outs[outs0.length]? = some x := by rw [h1 _ (by simp)]; simp
      refine ⟨outs, fun i hi => by rw [h1 i (by simp; omega), List.getElem?_append_left hi], by simp at h2 ⊢; omega, x, hx, hst, fun i y hi hy => ?_, by simpa using h3⟩
      rw [h1 i (by simp; omega), List.getElem?_append_left hi] at hy
      exact hc i y hi hy
    have ext : ∀ (x : Out3) (h' : Hist), (∀ j wr rd, chk all j wr rd h' → chk all j wr rd h ∧ Cond all x wr rd outs0.length j) → ∀ j wr rd, chk all j wr rd h' → ∀ i y, (outs0 ++ [x])[i]? = some y → Cond all y wr rd i j := by
      intro x h' hx j wr rd hc i y hy
      by_cases hi : i < outs0.length
      · rw [List.getElem?_append_left hi] at hy
        exact hh j wr rd (hx j wr rd hc).1 i y hy
      · rw [List.getElem?_append_right (by omega)] at hy
        have : i = outs0.length := by
          have := (List.getElem?_eq_some_iff.1 hy).1
          simp at this
          omega
        subst this
        simp at hy
        subst hy
        exact (hx j wr rd hc).2
    simp only [aops, if_true] at hk
    have go : (∀ (v : AV) (ups : Ups) (rd : List Id), Out P o.op env m v ups rd → Stepped P all o env m (v, ups, rd)) →
        aopX P true o.op env m (fun v ups rd => chk all outs0.length (ups.map (·.1)) rd h ∧ aops P true all rest (outs0.length + 1) ((outs0.length, ups.map (·.1), rd) :: h) (setD env o.dst v) (m.upd ups).tick K) →
        ∃ outs : List Out3, (∀ i, i < outs0.length → outs[i]? = outs0[i]?) ∧ outs.length = outs0.length + (o :: rest).length ∧ DF P all K (o :: rest) outs0.length outs env m := by
      intro hst hk
      obtain ⟨v, ups, rd, ⟨h1, h2⟩, h3⟩ := aopX_out hk
      refine push (v, ups, rd) _ (ext (v, ups, rd) _ fun j wr rd' hc => ?_) (hst v ups rd h3) (fun i y hi hy => hh _ _ _ h1 i y hy) h2
      simp only [chk] at hc
      exact ⟨hc.2, hc.1⟩
    split at hk
    · rename_i hg
      exact go (fun v ups rd h => by simp only [Stepped, hg]; exact h) hk
    · rename_i g want hg
      split at hk
      · rename_i t ht
        split at hk
        · rename_i b hb
          by_cases hc : b = want
          · rw [if_pos hc] at hk
            exact go (fun v ups rd h => by simp only [Stepped, hg]; exact ⟨t, ht, .inl ⟨b, hb, by rw [if_pos hc]; exact h⟩⟩) hk
          · rw [if_neg hc] at hk
            refine push (.tup [], [], []) h (ext (.tup [], [], []) h fun j wr rd hc => ⟨hc, by simp [Cond, idsU, disj]⟩) (by simp only [Stepped, hg]; exact ⟨t, ht, .inl ⟨b, hb, by rw [if_neg hc]; trivial⟩⟩) (fun i y hi hy => ?_) hk
            simp [Cond, idsU, disj]
        · rename_i hb
          refine push (.tup [], [], []) h (ext (.tup [], [], []) h fun j wr rd hc => ⟨hc, by simp [Cond, idsU, disj]⟩) (by simp only [Stepped, hg]; exact ⟨t, ht, .inr ⟨hb, trivial⟩⟩) (fun i y hi hy => ?_) hk
          simp [Cond, idsU, disj]
        · exact hk.elim
      · exact hk.elim

end

/-! ### what waits for what -/

theorem mask_bit (acc : Array Nat) : ∀ (es : List Edge) (s : Nat) (i : Nat), (es.foldl (fun s e => if Region.binds .any e then s ||| 2 ^ e.on ||| acc.getD e.on 0 else s) s).testBit i = true →
    s.testBit i = true ∨ ∃ e ∈ es, Region.binds .any e = true ∧ (e.on = i ∨ (acc.getD e.on 0).testBit i = true)
  | [], s, i, h => .inl h
  | e :: r, s, i, h => by
    simp only [List.foldl_cons] at h
    rcases mask_bit acc r _ i h with h | ⟨e', he', h1, h2⟩
    · by_cases hb : Region.binds .any e = true
      · rw [if_pos hb] at h
        simp only [Nat.testBit_or, Bool.or_eq_true, Nat.testBit_two_pow, decide_eq_true_eq] at h
        rcases h with (h | h) | h
        · exact .inl h
        · exact .inr ⟨e, by simp, hb, .inl h⟩
        · exact .inr ⟨e, by simp, hb, .inr h⟩
      · rw [if_neg hb] at h; exact .inl h
    · exact .inr ⟨e', by simp [he'], h1, h2⟩

def Claims (all : List Oper) (acc : Array Nat) : Prop :=
  ∀ j i, j < acc.size → (acc.getD j 0).testBit i = true → ∃ o, all[j]? = some o ∧ ∃ e ∈ o.after.toList, Region.binds .any e = true ∧ (e.on = i ∨ (e.on < j ∧ (acc.getD e.on 0).testBit i = true))

theorem getD_push_lt (acc : Array Nat) (x j : Nat) (h : j < acc.size) : (acc.push x).getD j 0 = acc.getD j 0 := by
  simp [Array.getD_eq_getD_getElem?, Array.getElem?_push, Nat.ne_of_lt h]

theorem before_claims (all : List Oper) : Claims all (Region.before all.toArray) := by
  unfold Region.before
  rw [← Array.foldl_toList]
  have key : ∀ (l : List Oper) (acc : Array Nat), (∀ k o, l[k]? = some o → all[acc.size + k]? = some o) → Claims all acc →
      Claims all (l.foldl (fun acc o => acc.push (o.after.foldl (fun s e => if Region.binds .any e then s ||| 2 ^ e.on ||| acc.getD e.on 0 else s) 0)) acc) := by
    intro l
    induction l with
    | nil => intro acc _ h; exact h
    | cons o r ih =>
      intro acc hl hc
      simp only [List.foldl_cons]
      refine ih _ (fun k o' hk => ?_) ?_
      · have := hl (k + 1) o' (by simpa using hk)
        rw [Array.size_push]
        rw [← this]; congr 1; omega
      · intro j i hj hb
        rw [Array.size_push] at hj
        by_cases hlt : j < acc.size
        · rw [getD_push_lt _ _ _ hlt] at hb
          obtain ⟨o', h1, e, h2, h3, h4⟩ := hc j i hlt hb
          refine ⟨o', h1, e, h2, h3, h4.imp id fun h => ⟨h.1, ?_⟩⟩
          rw [getD_push_lt _ _ _ (by omega)]
          exact h.2
        · have : j = acc.size := by omega
          subst this
          have hx : (acc.push (o.after.foldl (fun s e => if Region.binds .any e then s ||| 2 ^ e.on ||| acc.getD e.on 0 else s) 0)).getD acc.size 0 = o.after.foldl (fun s e => if Region.binds .any e then s ||| 2 ^ e.on ||| acc.getD e.on 0 else s) 0 := by
            simp [Array.getD_eq_getD_getElem?]
          rw [hx, ← Array.foldl_toList] at hb
          rcases mask_bit acc _ _ i hb with h | ⟨e, h1, h2, h3⟩
          · simp at h
          · refine ⟨o, by simpa using hl 0 o rfl, e, h1, h2, ?_⟩
            rcases h3 with h3 | h3
            · exact .inl h3
            · by_cases he : e.on < acc.size
              · exact .inr ⟨he, by rw [getD_push_lt _ _ _ he]; exact h3⟩
              · have : acc.getD e.on 0 = 0 := by simp [Array.getD_eq_getD_getElem?, Array.getElem?_eq_none (Nat.le_of_not_lt he)]
                rw [this] at h3
                simp at h3
  exact key all #[] (fun k o h => by simpa using h) (fun j i hj => by simp at hj)

def Closed (all : List Oper) (S : Nat → Bool) : Prop := ∀ j o, S j = true → all[j]? = some o → ∀ e ∈ o.after.toList, Region.binds .any e = true → S e.on = true

theorem Closed.ord {all : List Oper} {S : Nat → Bool} (h : Closed all S) : ∀ (j i : Nat), ordB all i j = true → S j = true → S i = true := by
  intro j
  induction j using Nat.strongRecOn with
  | _ j ih =>
    intro i ho hj
    unfold ordB at ho
    have hlt : j < (Region.before all.toArray).size := by
      rcases Nat.lt_or_ge j (Region.before all.toArray).size with h' | h'
      · exact h'
      · rw [Array.getD_eq_getD_getElem?, Array.getElem?_eq_none h'] at ho
        simp at ho
    obtain ⟨o, h1, e, h2, h3, h4⟩ := before_claims all j i hlt ho
    have he := h j o hj h1 e h2 h3
    rcases h4 with h4 | ⟨h4, h5⟩
    · exact h4 ▸ he
    · exact ih e.on h4 i h5 he

/-! ### the state when a set of operations has been carried out -/

def dstA (all : List Oper) (k : Nat) : Option Tmp := (all[k]?).bind (·.dst)
def outV (outs : List Out3) (k : Nat) : AV := ((outs[k]?).map (·.1)).getD .top
def outU (outs : List Out3) (k : Nat) : Ups := ((outs[k]?).map (·.2.1)).getD []
def outR (outs : List Out3) (k : Nat) : List Id := ((outs[k]?).map (·.2.2)).getD []

def envS (all : List Oper) (outs : List Out3) (E0 : Env) (S : Nat → Bool) : Nat → Env
  | 0 => E0
  | k + 1 => if S k then setD (envS all outs E0 S k) (dstA all k) (outV outs k) else envS all outs E0 S k

def memS (outs : List Out3) (m0 : Mem) (S : Nat → Bool) : Nat → Mem
  | 0 => m0
  | k + 1 => if S k then (memS outs m0 S k).upd (outU outs k) else memS outs m0 S k

theorem lk_setD (E : Env) (d : Option Nat) (v : AV) (t : Nat) : lk (setD E d v) t = if d = some t then v else lk E t := by
  cases d with
  | none => simp [setD]
  | some d => simp [setD, lk]

theorem envS_congr {all : List Oper} {outs : List Out3} {E0 : Env} {S S' : Nat → Bool} {t : Nat} : ∀ (k : Nat), (∀ i, i < k → dstA all i = some t → S i = S' i) → lk (envS all outs E0 S k) t = lk (envS all outs E0 S' k) t
  | 0, _ => rfl
  | k + 1, h => by
    have ih := envS_congr (outs := outs) (E0 := E0) k (fun i hi hd => h i (by omega) hd)
    simp only [envS]
    by_cases hd : dstA all k = some t
    · rw [h k (by omega) hd]
      split
      · rw [lk_setD, lk_setD, if_pos hd, if_pos hd]
      · exact ih
    · split <;> split <;> simp only [lk_setD, if_neg hd, ih]

theorem put_get_ne (m : Mem) (p : Id) (b : Blk) (a k : Nat) (h : ¬ (p.1 = a ∧ p.2 = k)) : (m.put p b).get a k = m.get a k := by
  unfold Mem.put
  split
  · rename_i h0
    simp only [Mem.get]
    split
    · rename_i ha
      have : p.2 ≠ k := fun e => h ⟨h0.trans ha.symm, e⟩
      simp only [List.getD_eq_getElem?_getD, List.getElem?_set_ne this]
    · rfl
  · rename_i h0
    simp only [Mem.get, assoc, if_neg h]

theorem put_get_same (m m' : Mem) (p : Id) (b : Blk) (h : m.args.length = m'.args.length) : (m.put p b).get p.1 p.2 = (m'.put p b).get p.1 p.2 := by
  unfold Mem.put
  split
  · rename_i h0
    simp only [Mem.get, h0, if_true, List.getD_eq_getElem?_getD, List.getElem?_set, h]
  · rename_i h0
    simp [Mem.get, assoc, h0]

theorem upd_get_ne : ∀ (u : Ups) (m : Mem) (p : Id), p ∉ idsU u → (m.upd u).get p.1 p.2 = m.get p.1 p.2
  | [], _, _, _ => rfl
  | (q, b) :: r, m, p, h => by
    simp only [idsU, List.map_cons, List.mem_cons, not_or] at h
    simp only [Mem.upd]
    rw [upd_get_ne r _ p h.2, put_get_ne]
    rintro ⟨e1, e2⟩
    exact h.1 (Prod.ext e1.symm e2.symm)

theorem upd_get_same : ∀ (u : Ups) (m m' : Mem) (p : Id), m.args.length = m'.args.length → (p ∈ idsU u ∨ m.get p.1 p.2 = m'.get p.1 p.2) → (m.upd u).get p.1 p.2 = (m'.upd u).get p.1 p.2
  | [], _, _, _, _, h => by rcases h with h | h; simp [idsU] at h; exact h
  | (q, b) :: r, m, m', p, hl, h => by
    simp only [Mem.upd]
    refine upd_get_same r _ _ p (by rw [Mem.put_args, Mem.put_args, hl]) ?_
    by_cases hq : q = p
    · subst hq; exact .inr (put_get_same m m' q b hl)
    · have hne : ¬ (q.1 = p.1 ∧ q.2 = p.2) := fun e => hq (Prod.ext e.1 e.2)
      rcases h with h | h
      · simp only [idsU, List.map_cons, List.mem_cons] at h
        rcases h with h | h
        · exact absurd h.symm hq
        · exact .inl h
      · exact .inr (by rw [put_get_ne _ _ _ _ _ hne, put_get_ne _ _ _ _ _ hne, h])

theorem memS_args {outs : List Out3} {m0 : Mem} {S : Nat → Bool} : ∀ k, (memS outs m0 S k).args.length = m0.args.length
  | 0 => rfl
  | k + 1 => by
    simp only [memS]
    split
    · rw [Mem.upd_args, memS_args k]
    · exact memS_args k

theorem memS_congr {outs : List Out3} {m0 : Mem} {S S' : Nat → Bool} {p : Id} : ∀ (k : Nat), (∀ i, i < k → p ∈ idsU (outU outs i) → S i = S' i) → (memS outs m0 S k).get p.1 p.2 = (memS outs m0 S' k).get p.1 p.2
  | 0, _ => rfl
  | k + 1, h => by
    have ih := memS_congr (m0 := m0) k (fun i hi hd => h i (by omega) hd)
    simp only [memS]
    by_cases hd : p ∈ idsU (outU outs k)
    · rw [h k (by omega) hd]
      split
      · exact upd_get_same _ _ _ _ (by rw [memS_args, memS_args]) (.inl hd)
      · exact ih
    · split <;> split <;> simp only [upd_get_ne _ _ _ hd, ih]

theorem envS_stop {all : List Oper} {outs : List Out3} {E0 : Env} {S : Nat → Bool} {j : Nat} : ∀ k, (∀ i, j ≤ i → i < j + k → S i = false) → envS all outs E0 S (j + k) = envS all outs E0 S j
  | 0, _ => rfl
  | k + 1, h => by
    rw [← Nat.add_assoc]
    simp only [envS]
    rw [h (j + k) (by omega) (by omega), if_neg (by simp)]
    exact envS_stop k (fun i h1 h2 => h i h1 (by omega))

theorem memS_stop {outs : List Out3} {m0 : Mem} {S : Nat → Bool} {j : Nat} : ∀ k, (∀ i, j ≤ i → i < j + k → S i = false) → memS outs m0 S (j + k) = memS outs m0 S j
  | 0, _ => rfl
  | k + 1, h => by
    rw [← Nat.add_assoc]
    simp only [memS]
    rw [h (j + k) (by omega) (by omega), if_neg (by simp)]
    exact memS_stop k (fun i h1 h2 => h i h1 (by omega))

theorem envS_ext {all : List Oper} {outs : List Out3} {E0 : Env} {S S' : Nat → Bool} : ∀ k, (∀ i, i < k → S i = S' i) → envS all outs E0 S k = envS all outs E0 S' k
  | 0, _ => rfl
  | k + 1, h => by simp only [envS]; rw [h k (by omega), envS_ext k (fun i hi => h i (by omega))]

theorem memS_ext {outs : List Out3} {m0 : Mem} {S S' : Nat → Bool} : ∀ k, (∀ i, i < k → S i = S' i) → memS outs m0 S k = memS outs m0 S' k
  | 0, _ => rfl
  | k + 1, h => by simp only [memS]; rw [h k (by omega), memS_ext k (fun i hi => h i (by omega))]

/-- What the run in the order of the text says, operation by operation. -/
theorem DF_facts {P : Program} {all : List Oper} {K : Env → Mem → Prop} {outs : List Out3} {E0 : Env} {m0 : Mem} : ∀ (l : List Oper) (j : Nat) (m : Mem), (∀ k o, l[k]? = some o → all[j + k]? = some o) →
    m.next = m0.next + j → m.args.length = m0.args.length → (∀ p : Id, m.get p.1 p.2 = (memS outs m0 (fun _ => true) j).get p.1 p.2) → DF P all K l j outs (envS all outs E0 (fun _ => true) j) m →
    (∃ mf, mf.next = m0.next + (j + l.length) ∧ mf.args.length = m0.args.length ∧ (∀ p : Id, mf.get p.1 p.2 = (memS outs m0 (fun _ => true) (j + l.length)).get p.1 p.2) ∧ K (envS all outs E0 (fun _ => true) (j + l.length)) mf) ∧
    ∀ i, j ≤ i → i < j + l.length → ∃ o x mi, all[i]? = some o ∧ outs[i]? = some x ∧ mi.next = m0.next + i ∧ mi.args.length = m0.args.length ∧ (∀ p : Id, mi.get p.1 p.2 = (memS outs m0 (fun _ => true) i).get p.1 p.2) ∧
      Stepped P all o (envS all outs E0 (fun _ => true) i) mi x ∧ (∀ i' y, i' < i → outs[i']? = some y → Cond all y (idsU x.2.1) x.2.2 i' i)
  | [], j, m, _, hn, ha, hg, h => ⟨⟨m, by simpa using hn, ha, by simpa using hg, h⟩, fun i h1 h2 => by simp at h2; omega⟩
  | o :: rest, j, m, hl, hn, ha, hg, ⟨x, hx, hst, hc, h⟩ => by
    have ho : all[j]? = some o := by simpa using hl 0 o rfl
    have hE : envS all outs E0 (fun _ => true) (j + 1) = setD (envS all outs E0 (fun _ => true) j) o.dst x.1 := by
      simp [envS, dstA, ho, outV, hx]
    have hM : memS outs m0 (fun _ => true) (j + 1) = (memS outs m0 (fun _ => true) j).upd x.2.1 := by
      simp [memS, outU, hx]
    rw [← hE] at h
    have hrec := DF_facts (m0 := m0) rest (j + 1) (m.upd x.2.1).tick (fun k o' hk => by have := hl (k + 1) o' (by simpa using hk); rw [← this]; congr 1; omega)
      (by show (m.upd x.2.1).next + 1 = _; rw [Mem.upd_next, hn]; omega) (by simp only [Mem.tick, Mem.upd_args]; exact ha)
      (fun p => by rw [Mem.get_tick, hM]; exact upd_get_same _ _ _ _ (by rw [ha, memS_args]) (.inr (hg p))) h
    obtain ⟨h1, h2⟩ := hrec
    have hlen : j + (o :: rest).length = j + 1 + rest.length := by simp; omega
    rw [hlen]
    refine ⟨h1, fun i hi1 hi2 => ?_⟩
    by_cases hij : i = j
    · subst hij
      exact ⟨o, x, m, ho, hx, hn, ha, hg, hst, hc⟩
    · exact h2 i (by omega) hi2

end Go.Abs

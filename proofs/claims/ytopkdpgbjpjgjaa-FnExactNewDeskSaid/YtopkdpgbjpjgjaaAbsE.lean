/-
What each operation of the model does to values and memory that read as the abstract words say: one law an operation.
-/
import Derived.Test.YtopkdpgbjpjgjaaAbsS
namespace Go.Abs
open Go
set_option linter.unusedVariables false
set_option linter.unusedSectionVars false
set_option linter.unusedSimpArgs false
set_option linter.defProp false

def RelE (ρ : Rho) (env : Env) (a : Act) : Prop := ∀ t, RelV ρ (lk env t) (a.tmps.getD t undef)

structure After (ρ : Rho) (own : Nat → Prop) (m : Mem) (ups : Ups) (v : AV) (w : World) (val : Value) (w' : World) (ρ' : Rho) : Prop where
  le : Le ρ ρ'
  only : ∀ a k, a ≠ m.next → ρ' a k = ρ a k
  val : RelV ρ' v val
  mem : MemRel ρ' own (fupds m.get ups) w'
  kept : Kept own w w'

structure Ctx (ρ : Rho) (own : Nat → Prop) (env : Env) (m : Mem) (a : Act) (w : World) : Prop where
  env : RelE ρ env a
  mem : MemRel ρ own m.get w
  fresh : ∀ k, ρ m.next k = none
  nz : m.next ≠ 0
  own : ∀ b, w.heap.size ≤ b → own b

/-- What an operation is asked to do. -/
def OpOk (P : Program) (ρ : Rho) (own : Nat → Prop) (m : Mem) (a : Act) (w : World) (o : Oper) (v : AV) (ups : Ups) : Prop :=
  (∀ x ∈ ups, x.1.1 = 0 → x.1.2 < m.args.length) ∧
  ∀ next Q, (∀ val w' ρ', After ρ own m ups v w val w' ρ' → next (a.put o.dst val) w') → o.wp P a w next Q

section
variable {P : Program} {ρ : Rho} {own : Nat → Prop} {env : Env} {m : Mem} {a : Act} {w : World}

theorem ofConst_sound (v : Value) : RelV ρ (ofConst v) v := by
  unfold ofConst
  split <;> simp [RelV, RelAt]

theorem aev_sound (h : RelE ρ env a) (x : Operand) : RelV ρ (aev env x) (a.eval x) := by
  cases x with
  | tmp t => exact h t
  | const v => exact ofConst_sound v
  | func f => simp only [aev, RelV, Act.eval]; exact ⟨[], rfl, rfl⟩
  | global g => simp [aev, RelV]

theorem After.pure {v : AV} {val : Value} (hM : MemRel ρ own m.get w) (hv : RelV ρ v val) : After ρ own m [] v w val w ρ :=
  ⟨Le.refl ρ, fun _ _ _ => rfl, hv, hM, Kept.refl own w⟩

theorem OpOk.value {o : Oper} {v : AV} {ups : Ups} {val : Value} {w' : World} {ρ' : Rho} (hu : ∀ x ∈ ups, x.1.1 = 0 → x.1.2 < m.args.length)
    (hr : (execOp a.eval o).run P w = .ok (.value val) w') (h : After ρ own m ups v w val w' ρ') : OpOk P ρ own m a w o v ups :=
  ⟨hu, fun next Q hn => by unfold Oper.wp; rw [hr]; exact hn val w' ρ' h⟩

theorem OpOk.skip {o : Oper} {ups : Ups} {w' : World} {ρ' : Rho} (hu : ∀ x ∈ ups, x.1.1 = 0 → x.1.2 < m.args.length)
    (hr : (execOp a.eval o).run P w = .ok .skip w') (h : After ρ own m ups .top w undef w' ρ') : OpOk P ρ own m a w o .top ups :=
  ⟨hu, fun next Q hn => by unfold Oper.wp; rw [hr]; exact hn undef w' ρ' h⟩

theorem OpOk.pure {o : Oper} {v : AV} {val : Value} (c : Ctx ρ own env m a w) (hr : (execOp a.eval o).run P w = .ok (.value val) w) (hv : RelV ρ v val) : OpOk P ρ own m a w o v [] :=
  OpOk.value (by simp) hr (After.pure c.mem hv)

theorem run_v {s : Sem Value} {val : Value} {w' : World} (h : s.run P w = .ok val w') : (do pure (Next.value (← s)) : Sem Next).run P w = .ok (.value val) w' := by
  simp [h]

theorem run_u {s : Sem Unit} {w' : World} (h : s.run P w = .ok () w') : (do s; pure Next.skip : Sem Next).run P w = .ok .skip w' := by
  simp [h]

/-! ### pure operations -/

theorem ok_unOp {o : Oper} {op : UnOp} {t : TypeId} {x : Operand} {K : AV → Prop} (c : Ctx ρ own env m a w) (ho : o.op = .unOp op t x) (hk : aun op (aev env x) K) :
    ∃ v, K v ∧ OpOk P ρ own m a w o v [] := by
  have hx := aev_sound c.env x
  unfold aun at hk
  split at hk
  · rename_i y e
    rw [e] at hx
    simp only [RelV] at hx
    exact ⟨_, hk, OpOk.pure (val := .bool !y) c (by simp only [execOp, ho]; exact run_v (by simp [hx, Op.unary])) (by simp [RelV])⟩
  · rename_i k n e
    rw [e] at hx
    simp only [RelV] at hx
    exact ⟨_, hk, OpOk.pure (val := .int k (k.wrap (0 - n))) c (by simp only [execOp, ho]; exact run_v (by simp [hx, Op.unary, Op.intArith])) (by simp [RelV])⟩
  · exact hk.elim

theorem intBin_sound {op : BinOp} {k : IntKind} {x y : Int} {t : TypeId} {K : AV → Prop} (hs : isShift op = false) (hk : intBin op k x y K) :
    ∃ v val, K v ∧ RelV ρ v val ∧ (binOp op t (.int k x) (.int k y)).run P w = .ok val w := by
  cases op <;> simp only [intBin, isShift] at hk hs
  case add => exact ⟨_, _, hk, rfl, by simp [binOp, Op.intArith]⟩
  case sub => exact ⟨_, _, hk, rfl, by simp [binOp, Op.intArith]⟩
  case mul => exact ⟨_, _, hk, rfl, by simp [binOp, Op.intArith]⟩
  case quo => exact ⟨_, _, hk.2, rfl, by simp [binOp, Op.intDiv, hk.1]⟩
  case rem => exact ⟨_, _, hk.2, rfl, by simp [binOp, Op.intDiv, hk.1]⟩
  case and => exact ⟨_, _, hk, rfl, by simp only [binOp, ne_eq, not_true_eq_false, if_false, Op.intBits]; rfl⟩
  case or => exact ⟨_, _, hk, rfl, by simp only [binOp, ne_eq, not_true_eq_false, if_false, Op.intBits]; rfl⟩
  case xor => exact ⟨_, _, hk, rfl, by simp only [binOp, ne_eq, not_true_eq_false, if_false, Op.intBits]; rfl⟩
  case andNot => exact ⟨_, _, hk, rfl, by simp only [binOp, ne_eq, not_true_eq_false, if_false, Op.intBits]; rfl⟩
  case eql => exact ⟨_, _, hk, rfl, by simp only [binOp, ne_eq, not_true_eq_false, if_false, Op.intCmp]; rfl⟩
  case neq => exact ⟨_, .bool (!decide (x = y)), hk, rfl, by simp [binOp, Op.intCmp, bne, BEq.beq]⟩
  case lss => exact ⟨_, _, hk, rfl, by simp [binOp, Op.intCmp]⟩
  case leq => exact ⟨_, _, hk, rfl, by simp [binOp, Op.intCmp]⟩
  case gtr => exact ⟨_, _, hk, rfl, by simp [binOp, Op.intCmp]⟩
  case geq => exact ⟨_, _, hk, rfl, by simp [binOp, Op.intCmp]⟩

theorem intShift_sound {op : BinOp} {k k' : IntKind} {x y : Int} {t : TypeId} {K : AV → Prop} (hk : intShift op k x y K) :
    ∃ v val, K v ∧ RelV ρ v val ∧ (binOp op t (.int k x) (.int k' y)).run P w = .ok val w := by
  cases op <;> simp only [intShift] at hk
  case shl =>
    have : ¬ y < 0 := by omega
    exact ⟨_, _, hk.2, rfl, by simp [binOp, Op.shift, this]⟩
  case shr =>
    have : ¬ y < 0 := by omega
    exact ⟨_, _, hk.2, rfl, by simp [binOp, Op.shift, this]⟩

theorem tyOf_bool {t : Nat} (h : tyOf P t = .bool) : P.underlying t = some .bool := by
  unfold tyOf at h
  split at h <;> simp_all

theorem run_eq_bool {t : TypeId} {x y : Bool} (h : P.underlying t = some .bool) : (Op.equal t (.bool x) (.bool y)).run P w = .ok (x == y) w :=
  run_equalIn_bool' (P := P) w 9999 t x y h

theorem ok_binOp {o : Oper} {op : BinOp} {t t' : TypeId} {x y : Operand} {K : AV → Prop} (c : Ctx ρ own env m a w) (ho : o.op = .binOp op t x y t') (hk : abin P op t (aev env x) (aev env y) K) :
    ∃ v, K v ∧ OpOk P ρ own m a w o v [] := by
  have hx := aev_sound c.env x
  have hy := aev_sound c.env y
  unfold abin at hk
  split at hk
  · rename_i k n k' n' e1 e2
    rw [e1] at hx
    rw [e2] at hy
    simp only [RelV] at hx hy
    have fin : ∀ v val, K v → RelV ρ v val → (binOp op t (.int k n) (.int k' n')).run P w = .ok val w → ∃ v, K v ∧ OpOk P ρ own m a w o v [] := by
      intro v val h1 h2 h3
      refine ⟨v, h1, OpOk.pure c ?_ h2⟩
      simp only [execOp, ho, hx, hy]
      exact run_v (by simp [eqGuard_at_int, h3])
    split at hk
    · obtain ⟨v, val, h1, h2, h3⟩ := intShift_sound (ρ := ρ) (P := P) (w := w) (k' := k') (t := t) hk
      exact fin v val h1 h2 h3
    · rename_i hs
      obtain ⟨rfl, hk⟩ := hk
      obtain ⟨v, val, h1, h2, h3⟩ := intBin_sound (ρ := ρ) (P := P) (w := w) (t := t) (by simpa using hs) hk
      exact fin v val h1 h2 h3
  · rename_i u v e1 e2
    rw [e1] at hx
    rw [e2] at hy
    simp only [RelV] at hx hy
    split at hk
    · obtain ⟨ht, hk⟩ := hk
      refine ⟨_, hk, OpOk.pure (val := .bool (u == v)) c ?_ (by simp [RelV])⟩
      simp only [execOp, ho, hx, hy]
      exact run_v (by simp [eqGuard_at_bool, binOp, run_eq_bool (tyOf_bool ht)])
    · obtain ⟨ht, hk⟩ := hk
      refine ⟨_, hk, OpOk.pure (val := .bool (!(u == v))) c ?_ (by simp [RelV])⟩
      simp only [execOp, ho, hx, hy]
      exact run_v (by simp [eqGuard_at_bool, binOp, run_eq_bool (tyOf_bool ht)])
    · exact hk.elim
  · rename_i gs hs e1 e2
    rw [e1] at hx
    rw [e2] at hy
    simp only [RelV] at hx hy
    obtain ⟨xs, hx, rx⟩ := hx
    obtain ⟨ys, hy, ry⟩ := hy
    split at hk
    · rename_i r hr
      obtain ⟨ht, hk⟩ := hk
      obtain ⟨h1, h2⟩ := agg_eq w ht hr rx ry
      refine ⟨_, hk, OpOk.pure (val := .bool r) c ?_ (by simp [RelV])⟩
      simp only [execOp, ho, hx, hy]
      exact run_v (by simp [run_eqGuard_agg w _ _ _ _ _ _ h1, run_eql_struct, h2])
    · rename_i r hr
      obtain ⟨ht, hk⟩ := hk
      obtain ⟨h1, h2⟩ := agg_eq w ht hr rx ry
      refine ⟨_, hk, OpOk.pure (val := .bool (!r)) c ?_ (by simp [RelV])⟩
      simp only [execOp, ho, hx, hy]
      exact run_v (by simp [run_eqGuard_agg w _ _ _ _ _ _ h1, run_neq_struct, h2])
    · exact hk.elim
  · exact hk.elim

theorem ok_convert {o : Oper} {s d : TypeId} {x : Operand} {K : AV → Prop} (c : Ctx ρ own env m a w) (ho : o.op = .convert s d x) (hk : aconvert P s d (aev env x) K) :
    ∃ v, K v ∧ OpOk P ρ own m a w o v [] := by
  have hx := aev_sound c.env x
  unfold aconvert at hk
  split at hk
  · rename_i k1 k2 k3 n e1 e2 e3
    rw [e3] at hx
    simp only [RelV] at hx
    refine ⟨_, hk, OpOk.pure (val := .int k2 (k2.wrap n)) c ?_ (by simp [RelV])⟩
    simp only [execOp, ho, hx]
    exact run_v (by simp [convert, run_underlying (tyOf_int e1), run_underlying (tyOf_int e2), Conv.intToInt])
  · exact hk.elim

theorem ok_pick {o : Oper} {c' x y : Operand} {g : Bool} (c : Ctx ρ own env m a w) (ho : o.op = .pick c' x y) (hg : aev env c' = .b g) :
    OpOk P ρ own m a w o (pickV g (aev env x) (aev env y)) [] := by
  have hc := aev_sound c.env c'
  have hx := aev_sound c.env x
  have hy := aev_sound c.env y
  rw [hg] at hc
  simp only [RelV] at hc
  refine OpOk.pure (val := if g then a.eval x else a.eval y) c ?_ ?_
  · simp only [execOp, ho, hc, asBool]
    simp
  · unfold pickV
    split
    · rename_i u v e1 e2
      rw [e1] at hx
      rw [e2] at hy
      simp only [RelV] at hx hy
      cases g <;> simp [RelV, hx, hy]
    · cases g <;> simp [hx, hy]

theorem ok_extract {o : Oper} {x : Operand} {j : Nat} {vs : List AV} {v : AV} (c : Ctx ρ own env m a w) (ho : o.op = .extract x j) (hx0 : aev env x = .tup vs) (hv : vs[j]? = some v) :
    OpOk P ρ own m a w o v [] := by
  have hx := aev_sound c.env x
  rw [hx0] at hx
  simp only [RelV] at hx
  obtain ⟨l, e, hr⟩ := hx
  have : ∀ (vs : List AV) (l : List Value) (j : Nat), RelVs ρ vs l → vs[j]? = some v → ∃ u, l[j]? = some u ∧ RelV ρ v u := by
    intro vs
    induction vs with
    | nil => intro l j _ h; simp at h
    | cons x r ih =>
      intro l j h h2
      simp only [RelVs] at h
      obtain ⟨u, l', rfl, hu, hr⟩ := h
      cases j with
      | zero => simp at h2; subst h2; exact ⟨u, rfl, hu⟩
      | succ j => exact ih l' j hr (by simpa using h2)
  obtain ⟨u, hu, hr⟩ := this vs l j hr hv
  refine OpOk.pure (val := u) c ?_ hr
  simp only [execOp, ho, e]
  exact run_v (by simp [Instr.extract, hu])

/-! ### addresses -/

theorem ok_fieldAddr {o : Oper} {t : TypeId} {x : Operand} {f : Nat} {K : AV → Prop} (c : Ctx ρ own env m a w) (ho : o.op = .fieldAddr t x f) (hk : afieldAddr P t (aev env x) f K) :
    ∃ v, K v ∧ OpOk P ρ own m a w o v [] := by
  have hx := aev_sound c.env x
  unfold afieldAddr at hk
  split at hk
  · rename_i a' k st off offs sz e1 e2
    rw [e1] at hx
    simp only [RelV, RelAt] at hx
    obtain ⟨p, hp, hv⟩ := hx
    obtain ⟨fs, hu, ho2, _⟩ := tyOf_st e2
    split at hk
    · rename_i q hq
      obtain ⟨h0, rfl, hk⟩ := hk
      subst ho2
      rw [List.getElem?_map] at hq
      cases hf : fs.toList[f]? with
      | none => simp [hf] at hq
      | some fd =>
        simp only [hf, Option.map_some, Option.some.injEq] at hq
        subst hq
        have hf' : fs[f]? = some fd := by simpa using hf
        refine ⟨_, hk, OpOk.pure (val := .pointer (some ⟨p.1, p.2.1 + (st + fd.offset) + 0, none⟩)) c ?_ (by simp only [RelV, RelAt]; exact ⟨p, hp, rfl⟩)⟩
        simp only [execOp, ho, hv]
        refine run_v ?_
        have hs : szOf P fd.type ≠ 0 := by simpa [Nat.pos_iff_ne_zero] using h0
        simp [Instr.fieldAt, run_underlying hu, hf', Instr.sureAddr, fieldPlace, run_sizeOf (isSome_of_pos h0), hs, addr_add, Nat.add_assoc]
    · exact hk.elim
  · exact hk.elim

theorem ok_indexAddr {o : Oper} {t : TypeId} {x i : Operand} {K : AV → Prop} (c : Ctx ρ own env m a w) (ho : o.op = .indexAddr t x i) (hk : aindexAddr P t (aev env x) (aev env i) K) :
    ∃ v, K v ∧ OpOk P ρ own m a w o v [] := by
  have hx := aev_sound c.env x
  have hi := aev_sound c.env i
  unfold aindexAddr at hk
  split at hk
  · rename_i a' k st off k2 n e1 e2
    rw [e1] at hx
    rw [e2] at hi
    simp only [RelV, RelAt] at hx hi
    obtain ⟨p, hp, hv⟩ := hx
    split at hk
    · rename_i len esz sz e3
      obtain ⟨h1, h2, h3, hk⟩ := hk
      obtain ⟨e, hu, rfl, _⟩ := tyOf_arr e3
      refine ⟨_, hk, OpOk.pure (val := .pointer (some ⟨p.1, p.2.1 + st + (off + n.toNat * szOf P e), none⟩)) c ?_ (by simp only [RelV, RelAt]; exact ⟨p, hp, rfl⟩)⟩
      simp only [execOp, ho, hv, hi]
      refine run_v ?_
      simp [Instr.indexAt, asIntOf, run_underlying hu, Instr.sureAddr, h2, h3, run_sizeOf (isSome_of_pos h1), addr_add, Nat.add_assoc]
    · exact hk.elim
  · rename_i a' k st off len esz k2 n e1 e2
    rw [e1] at hx
    rw [e2] at hi
    simp only [RelV, RelAt] at hx hi
    obtain ⟨p, cap, hp, hc, hv⟩ := hx
    split at hk
    · rename_i e' bytes e3
      obtain ⟨rfl, h1, h2, h3, hk⟩ := hk
      obtain ⟨e, hu, rfl, _⟩ := tyOf_sl e3
      rcases hv with ⟨hv, _⟩ | ⟨hl, _⟩
      · refine ⟨_, hk, OpOk.pure (val := .pointer (some ⟨p.1, p.2.1 + st + (off + n.toNat * szOf P e), none⟩)) c ?_ (by simp only [RelV, RelAt]; exact ⟨p, hp, rfl⟩)⟩
        simp only [execOp, ho, hv, hi]
        refine run_v ?_
        simp [Instr.indexAt, asIntOf, run_underlying hu, h2, h3, run_sizeOf (isSome_of_pos h1), addr_add, Nat.add_assoc]
      · omega
    · exact hk.elim
  · exact hk.elim

theorem RelSegs.cellAt {gs : Segs} {l : List Value} {st off : Nat} {K : AV → Prop} (h : RelSegs ρ 0 gs l) (hk : ldSc gs st off K) : ∃ v val, K v ∧ l[st + off]? = some val ∧ RelV ρ v val ∧ val.oneCell' = true := ldSc_sound h hk

theorem agg_run {cs l1 l2 l3 : List Value} {j n : Nat} (hl : cs = l1 ++ l2 ++ l3) (h1 : l1.length = j) (h2 : l2.length = n) : cs.toArray.extract j (j + n) = l2.toArray := by
  subst hl
  apply Array.toList_inj.1
  simp only [Array.toList_extract, List.extract_eq_take_drop]
  rw [List.append_assoc, List.drop_append_of_le_length (by omega), List.drop_of_length_le (by omega)]
  simp [← h2]

theorem ok_index {o : Oper} {t : TypeId} {x i : Operand} {K : AV → Prop} (c : Ctx ρ own env m a w) (ho : o.op = .index t x i) (hk : aindex P t (aev env x) (aev env i) K) :
    ∃ v, K v ∧ OpOk P ρ own m a w o v [] := by
  have hx := aev_sound c.env x
  have hi := aev_sound c.env i
  unfold aindex at hk
  split at hk
  · rename_i gs k2 n e1 e2
    rw [e1] at hx
    rw [e2] at hi
    simp only [RelV] at hx hi
    obtain ⟨cs, hv, hr⟩ := hx
    split at hk
    · rename_i len esz sz e3
      obtain ⟨h2, h3, h1, hk⟩ := hk
      obtain ⟨e, hu, rfl, _⟩ := tyOf_arr e3
      have hel : arrEl P t = e := by unfold arrEl; rw [hu]
      rw [hel] at hk
      have agg : (match tyOf P e with | .arr .. | .st .. => True | _ => False) → ldAg gs 0 (n.toNat * szOf P e) (szOf P e) K → ∃ v, K v ∧ OpOk P ρ own m a w o v [] := by
        intro hag hk
        obtain ⟨v, l1, l2, l3, hK, hl, hl1, hl2, hrv⟩ := ldAg_sound hr hk
        refine ⟨_, hK, OpOk.pure (val := .agg l2.toArray) c ?_ hrv⟩
        simp only [execOp, ho, hv, hi]
        refine run_v ?_
        have hex := agg_run (j := n.toNat * szOf P e) (n := szOf P e) hl (by omega) hl2
        simp only [Instr.index, asIntOf, Sem.run_bind, Sem.run_pure, Result.andThen_ok, run_underlying hu, h2, h3, and_self, if_true, run_sizeOf (isSome_of_pos h1), part, isAgg_true hag, hex]
      split at hk
      · rename_i e4; exact agg (by rw [e4]; trivial) hk
      · rename_i e4; exact agg (by rw [e4]; trivial) hk
      · exact hk.elim
      · rename_i q1 q2 q3
        obtain ⟨h5, hk⟩ := hk
        obtain ⟨v, val, hK, hc, hrv, _⟩ := ldSc_sound hr hk
        refine ⟨_, hK, OpOk.pure (val := val) c ?_ hrv⟩
        simp only [execOp, ho, hv, hi]
        refine run_v ?_
        have hc' : cs[n.toNat]? = some val := by simpa using hc
        have hag : (match tyOf P e with | .arr .. | .st .. | .other => False | _ => True) := by
          split <;> simp_all
        simp [Instr.index, asIntOf, run_underlying hu, h2, h3, part, isAgg_false hag, run_sizeOf (isSome_of_pos h1), h5, hc']
    · exact hk.elim
  · rename_i s k2 n e1 e2
    rw [e1] at hx
    rw [e2] at hi
    simp only [RelV, RelAt] at hx hi
    split at hk
    · rename_i e3
      obtain ⟨h2, h3, hk⟩ := hk
      have hu := tyOf_str e3
      have hlt : n.toNat < s.size := by omega
      refine ⟨_, hk, OpOk.pure (val := .int .u8 (s.data.getD n.toNat 0).toNat) c ?_ (by simp [RelV])⟩
      simp only [execOp, ho, hx, hi]
      refine run_v ?_
      have hb : s[n.toNat]? = some (s.data.getD n.toNat 0) := by
        rw [getElem?_pos s n.toNat hlt]
        have h4 : n.toNat < s.data.size := hlt
        congr 1
        unfold Array.getD
        rw [dif_pos h4]
        rfl
      simp [Instr.index, asIntOf, run_underlying hu, h2, hb]
    · exact hk.elim
  · exact hk.elim

def HiOk (hi : Option Value) (len h : Nat) : Prop := (hi = none ∧ h = len) ∨ ∃ k n, hi = some (.int k n) ∧ 0 ≤ n ∧ n ≤ len ∧ h = n.toNat
def LoOk (lo : Option Value) (h l : Nat) : Prop := (lo = none ∧ l = 0) ∨ ∃ k n, lo = some (.int k n) ∧ 0 ≤ n ∧ n ≤ h ∧ l = n.toNat

theorem run_sliceBounds {lo hi : Option Value} {isS : Bool} {len cap h l : Nat} (hc : len ≤ cap) (h1 : HiOk hi len h) (h2 : LoOk lo h l) : (Instr.sliceBounds isS len cap lo hi none).run P w = .ok (l, h, cap) w := by
  rcases h1 with ⟨rfl, rfl⟩ | ⟨k, n, rfl, h3, h4, rfl⟩ <;> rcases h2 with ⟨rfl, rfl⟩ | ⟨k2, n2, rfl, h5, h6, rfl⟩
  · simp [Instr.sliceBounds]
  · simp [Instr.sliceBounds, Instr.sliceBound, asIntOf, h5, h6]
  · have : n ≤ (cap : Int) := by omega
    simp [Instr.sliceBounds, Instr.sliceBound, asIntOf, h3, this]
  · have : n ≤ (cap : Int) := by omega
    have h6' : n2 ≤ max n 0 := by omega
    simp [Instr.sliceBounds, Instr.sliceBound, asIntOf, h3, this, h5, h6']

theorem asliceHi_sound {hi : Option Operand} {len : Nat} {K : Nat → Prop} (c : Ctx ρ own env m a w) (hk : asliceHi (hi.map (aev env)) len K) :
    ∃ h, K h ∧ h ≤ len ∧ HiOk (hi.map a.eval) len h := by
  cases hi with
  | none => exact ⟨len, hk, Nat.le_refl _, .inl ⟨rfl, rfl⟩⟩
  | some x =>
    have hx := aev_sound c.env x
    simp only [Option.map_some, asliceHi] at hk
    split at hk
    · rename_i h0; cases h0
    · rename_i k n e
      simp only [Option.some.injEq] at e
      rw [e] at hx
      simp only [RelV] at hx
      obtain ⟨h1, h2, hk⟩ := hk
      exact ⟨n.toNat, hk, by omega, .inr ⟨_, n, by simp [hx]; rfl, h1, h2, rfl⟩⟩
    · exact hk.elim

theorem asliceLo_sound {lo : Option Operand} {h : Nat} {K : Nat → Prop} (c : Ctx ρ own env m a w) (hk : asliceLo (lo.map (aev env)) h K) :
    ∃ l, K l ∧ l ≤ h ∧ LoOk (lo.map a.eval) h l := by
  cases lo with
  | none => exact ⟨0, hk, Nat.zero_le _, .inl ⟨rfl, rfl⟩⟩
  | some x =>
    have hx := aev_sound c.env x
    simp only [Option.map_some, asliceLo] at hk
    split at hk
    · rename_i h0; cases h0
    · rename_i k n e
      simp only [Option.some.injEq] at e
      rw [e] at hx
      simp only [RelV] at hx
      obtain ⟨h1, h2, hk⟩ := hk
      exact ⟨n.toNat, hk, by omega, .inr ⟨_, n, by simp [hx]; rfl, h1, h2, rfl⟩⟩
    · exact hk.elim

theorem ok_slice {o : Oper} {t : TypeId} {x : Operand} {lo hi : Option Operand} {K : AV → Prop} (c : Ctx ρ own env m a w) (ho : o.op = .slice t x lo hi none) (hk : aslice P t (aev env x) (lo.map (aev env)) (hi.map (aev env)) K) :
    ∃ v, K v ∧ OpOk P ρ own m a w o v [] := by
  have hx := aev_sound c.env x
  unfold aslice at hk
  split at hk
  · rename_i a' k st off len esz e' bytes e1 e2
    rw [e1] at hx
    simp only [RelV, RelAt] at hx
    obtain ⟨p, cap, hp, hc, hv⟩ := hx
    obtain ⟨rfl, h0, hk⟩ := hk
    obtain ⟨e, hu, rfl, _⟩ := tyOf_sl e2
    obtain ⟨h, hk, hh, hb1⟩ := asliceHi_sound c hk
    obtain ⟨l, hk, hl, hb2⟩ := asliceLo_sound c hk
    rcases hv with ⟨hv, hcap⟩ | ⟨hz, ad, hv⟩
    · have hbb := run_sliceBounds (P := P) (w := w) (isS := true) hc hb1 hb2
      by_cases hcl : cap = l
      · subst hcl
        refine ⟨_, hk, OpOk.pure (val := .slice (some ⟨p.1, p.2.1 + st + off, none⟩) (h - cap) (cap - cap)) c ?_ ?_⟩
        · simp only [execOp, ho, hv]
          refine run_v ?_
          simp [Instr.sliceAt, Instr.slice, run_underlying hu, hbb, run_sizeOf (isSome_of_pos h0)]
        · simp only [RelV, RelAt]
          refine ⟨p, 0, hp, by omega, .inr ⟨by omega, ⟨p.1, p.2.1 + st + off, none⟩, ?_⟩⟩
          rw [show h - cap = 0 by omega, show cap - cap = 0 by omega]
      · refine ⟨_, hk, OpOk.pure (val := .slice (some ⟨p.1, p.2.1 + st + (off + l * szOf P e), none⟩) (h - l) (cap - l)) c ?_ ?_⟩
        · simp only [execOp, ho, hv]
          refine run_v ?_
          simp [Instr.sliceAt, Instr.slice, run_underlying hu, hbb, run_sizeOf (isSome_of_pos h0), hcl, addr_add, Nat.add_assoc]
        · simp only [RelV, RelAt]
          refine ⟨p, cap - l, hp, by omega, .inl ⟨rfl, ?_⟩⟩
          have : l * szOf P e + (cap - l) * szOf P e = cap * szOf P e := by rw [← Nat.add_mul]; congr 1; omega
          omega
    · subst hz
      have hh0 : h = 0 := by omega
      subst hh0
      have hl0 : l = 0 := by omega
      subst hl0
      have hbb := run_sliceBounds (P := P) (w := w) (isS := true) (Nat.le_refl 0) hb1 hb2
      refine ⟨_, hk, OpOk.pure (val := .slice (some ad) 0 0) c ?_ ?_⟩
      · simp only [execOp, ho, hv]
        refine run_v ?_
        simp [Instr.sliceAt, Instr.slice, run_underlying hu, hbb, run_sizeOf (isSome_of_pos h0)]
      · simp only [RelV, RelAt]
        exact ⟨p, 0, hp, by omega, .inr (by simp)⟩
  · rename_i s e1 e2
    rw [e1] at hx
    simp only [RelV, RelAt] at hx
    have hu := tyOf_str e2
    obtain ⟨h, hk, hh, hb1⟩ := asliceHi_sound c hk
    obtain ⟨l, hk, hl, hb2⟩ := asliceLo_sound c hk
    have hbb := run_sliceBounds (P := P) (w := w) (isS := false) (Nat.le_refl _) hb1 hb2
    refine ⟨_, hk, OpOk.pure (val := .string (s.extract l h)) c ?_ (by simp [RelV, RelAt])⟩
    simp only [execOp, ho, hx]
    refine run_v ?_
    simp [Instr.sliceAt, Instr.slice, run_underlying hu, hbb]
  · exact hk.elim

end
end Go.Abs

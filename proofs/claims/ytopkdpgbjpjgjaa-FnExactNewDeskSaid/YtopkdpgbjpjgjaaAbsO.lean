/-
How the abstract walk is evaluated: the arguments of each word are made plain before what follows is looked at.
-/
import Derived.Test.YtopkdpgbjpjgjaaAbsN
namespace Go.Abs
open Go
set_option linter.unusedVariables false
set_option linter.unusedSectionVars false
set_option linter.unusedSimpArgs false
set_option linter.defProp false

/-- It is always rewritten, so that the simplifier takes each of the congruences below as one that changed something. -/
def Tag : Nat := 0
theorem Tag_eq : Tag = 1 - 1 := (Nat.add_zero Tag).symm.trans (Nat.zero_add 0)

section
variable {P : Program} {K : AV → Prop} {K3 : AV → Ups → List Id → Prop} {KS : Segs → Prop}

@[congr] theorem awp_congr {tg : Nat} (htg : Tag = tg) {c : Code} {env env' : Env} {m m' : Mem} {K : Exit → Env → Mem → Prop} (h1 : env = env') (h2 : m = m') : awp P c env m K = awp P c env' m' K := by rw [h1, h2]
@[congr] theorem aops_congr {tg : Nat} (htg : Tag = tg) {d : Bool} {all l : List Oper} {j j' : Nat} {h h' : Hist} {env env' : Env} {m m' : Mem} {K : Env → Mem → Prop} (h0 : j = j') (hh : h = h') (h1 : env = env') (h2 : m = m') : aops P d all l j h env m K = aops P d all l j' h' env' m' K := by rw [h0, hh, h1, h2]
@[congr] theorem aopX_congr {tg : Nat} (htg : Tag = tg) {d : Bool} {op : Op} {env : Env} {m : Mem} : aopX P d op env m K3 = aopX P d op env m K3 := rfl
@[congr] theorem aop_congr {tg : Nat} (htg : Tag = tg) {op : Op} {env : Env} {m : Mem} : aop P op env m K3 = aop P op env m K3 := rfl
@[congr] theorem abin_congr {tg : Nat} (htg : Tag = tg) {op : BinOp} {t : TypeId} {x x' y y' : AV} (h1 : x = x') (h2 : y = y') : abin P op t x y K = abin P op t x' y' K := by rw [h1, h2]
@[congr] theorem aun_congr {tg : Nat} (htg : Tag = tg) {op : UnOp} {x x' : AV} (h1 : x = x') : aun op x K = aun op x' K := by rw [h1]
@[congr] theorem intBin_congr {tg : Nat} (htg : Tag = tg) {op : BinOp} {k : IntKind} {x y : Int} : intBin op k x y K = intBin op k x y K := rfl
@[congr] theorem intShift_congr {tg : Nat} (htg : Tag = tg) {op : BinOp} {k : IntKind} {x y : Int} : intShift op k x y K = intShift op k x y K := rfl
@[congr] theorem aload_congr {tg : Nat} (htg : Tag = tg) {t : TypeId} {env : Env} {m : Mem} {x : Operand} : aload P t env m x K3 = aload P t env m x K3 := rfl
@[congr] theorem astore_congr {tg : Nat} (htg : Tag = tg) {t : TypeId} {env : Env} {m : Mem} {x y : Operand} : astore P t env m x y K3 = astore P t env m x y K3 := rfl
@[congr] theorem ldSc_congr {tg : Nat} (htg : Tag = tg) {gs gs' : Segs} {st st' off off' : Nat} (h1 : gs = gs') (h2 : st = st') (h3 : off = off') : ldSc gs st off K = ldSc gs' st' off' K := by rw [h1, h2, h3]
@[congr] theorem ldAg_congr {tg : Nat} (htg : Tag = tg) {gs gs' : Segs} {st st' off off' sz : Nat} (h1 : gs = gs') (h2 : st = st') (h3 : off = off') : ldAg gs st off sz K = ldAg gs' st' off' sz K := by rw [h1, h2, h3]
@[congr] theorem ldMulti_congr {tg : Nat} (htg : Tag = tg) {gs : Segs} {st off sz : Nat} : ldMulti gs st off sz K = ldMulti gs st off sz K := rfl
@[congr] theorem splice_congr {tg : Nat} (htg : Tag = tg) {g g1 g' g1' : Sg} {off off' : Nat} {K : Sg → Prop} (h1 : g = g1) (h2 : off = off') (h3 : g' = g1') : splice g off g' K = splice g1 off' g1' K := by rw [h1, h2, h3]
@[congr] theorem stMulti_congr {tg : Nat} (htg : Tag = tg) {gs gs' : Segs} {st : Nat} {vs vs' : Segs} (h1 : gs = gs') (h2 : vs = vs') : stMulti gs st vs KS = stMulti gs' st vs' KS := by rw [h1, h2]
@[congr] theorem stSegs_congr {tg : Nat} (htg : Tag = tg) {gs gs' : Segs} {st st' off off' : Nat} {vs vs' : Segs} (h1 : gs = gs') (h2 : st = st') (h3 : off = off') (h4 : vs = vs') : stSegs gs st off vs KS = stSegs gs' st' off' vs' KS := by rw [h1, h2, h3, h4]
@[congr] theorem aparts_congr' {tg : Nat} (htg : Tag = tg) {pl : Nat → Option (Nat × Nat × Nat)} {env : Env} {l : List (Nat × Operand)} {gs gs' : Segs} (h1 : gs = gs') : aparts P pl env l gs KS = aparts P pl env l gs' KS := by rw [h1]
@[congr] theorem abuild_congr {tg : Nat} (htg : Tag = tg) {t : TypeId} {env : Env} {l : List (Nat × Operand)} : abuild P t env l KS = abuild P t env l KS := rfl
@[congr] theorem abuildSlice_congr {tg : Nat} (htg : Tag = tg) {t : TypeId} {n : Nat} {env : Env} {l : List (Nat × Operand)} {K : Segs → Nat → Prop} : abuildSlice P t n env l K = abuildSlice P t n env l K := rfl
@[congr] theorem aindexAddr_congr {tg : Nat} (htg : Tag = tg) {t : TypeId} {x x' i i' : AV} (h1 : x = x') (h2 : i = i') : aindexAddr P t x i K = aindexAddr P t x' i' K := by rw [h1, h2]
@[congr] theorem aindex_congr {tg : Nat} (htg : Tag = tg) {t : TypeId} {x x' i i' : AV} (h1 : x = x') (h2 : i = i') : aindex P t x i K = aindex P t x' i' K := by rw [h1, h2]
@[congr] theorem afieldAddr_congr {tg : Nat} (htg : Tag = tg) {t : TypeId} {x x' : AV} {f : Nat} (h1 : x = x') : afieldAddr P t x f K = afieldAddr P t x' f K := by rw [h1]
@[congr] theorem aconvert_congr {tg : Nat} (htg : Tag = tg) {s d : TypeId} {x x' : AV} (h1 : x = x') : aconvert P s d x K = aconvert P s d x' K := by rw [h1]
@[congr] theorem asliceHi_congr {tg : Nat} (htg : Tag = tg) {hi hi' : Option AV} {n n' : Nat} {K : Nat → Prop} (h1 : hi = hi') (h2 : n = n') : asliceHi hi n K = asliceHi hi' n' K := by rw [h1, h2]
@[congr] theorem asliceLo_congr {tg : Nat} (htg : Tag = tg) {hi hi' : Option AV} {n n' : Nat} {K : Nat → Prop} (h1 : hi = hi') (h2 : n = n') : asliceLo hi n K = asliceLo hi' n' K := by rw [h1, h2]
@[congr] theorem aslice_congr {tg : Nat} (htg : Tag = tg) {t : TypeId} {x x' : AV} {lo lo' hi hi' : Option AV} (h1 : x = x') (h2 : lo = lo') (h3 : hi = hi') : aslice P t x lo hi K = aslice P t x' lo' hi' K := by rw [h1, h2, h3]
@[congr] theorem alen_congr {tg : Nat} (htg : Tag = tg) {t : TypeId} {x x' : AV} (h1 : x = x') : alen P t x K = alen P t x' K := by rw [h1]
@[congr] theorem slCells_congr {tg : Nat} (htg : Tag = tg) {m : Mem} {x x' : AV} {e : Nat} {z : Zk} {K : Sg → Nat → List Id → Prop} (h1 : x = x') : slCells m x e z K = slCells m x' e z K := by rw [h1]
@[congr] theorem killed_congr {tg : Nat} (htg : Tag = tg) {m : Mem} {x x' : AV} {K : Ups → Prop} (h1 : x = x') : killed m x K = killed m x' K := by rw [h1]
@[congr] theorem catSg_congr {tg : Nat} (htg : Tag = tg) {g g' h h' : Sg} {K : Sg → Prop} (h1 : g = g') (h2 : h = h') : catSg g h K = catSg g' h' K := by rw [h1, h2]
@[congr] theorem aappend_congr {tg : Nat} (htg : Tag = tg) {t : TypeId} {m : Mem} {x x' y y' : AV} (h1 : x = x') (h2 : y = y') : aappend P t m x y K3 = aappend P t m x' y' K3 := by rw [h1, h2]
@[congr] theorem amakeSlice_congr {tg : Nat} (htg : Tag = tg) {t : TypeId} {m : Mem} {x x' y y' : AV} (h1 : x = x') (h2 : y = y') : amakeSlice P t m x y K3 = amakeSlice P t m x' y' K3 := by rw [h1, h2]
@[congr] theorem acallee_congr {tg : Nat} (htg : Tag = tg) {env : Env} {x : Operand} {vs : List AV} {K : FuncId → List AV → Prop} : acallee env x vs K = acallee env x vs K := rfl
@[congr] theorem abuiltin_congr {tg : Nat} (htg : Tag = tg) {b : Builtin} {ts : List TypeId} {m : Mem} {vs vs' : List AV} (h : vs = vs') : abuiltin P b ts m vs K3 = abuiltin P b ts m vs' K3 := by rw [h]
@[congr] theorem CallsVia_congr {tg : Nat} (htg : Tag = tg) {f : FuncId} {vs vs' : List AV} {m : Mem} (h : vs = vs') : CallsVia P f vs m K3 = CallsVia P f vs' m K3 := by rw [h]
@[congr] theorem CallsF_congr {tg : Nat} (htg : Tag = tg) {f : FuncId} {vs : List AV} {m : Mem} {F : List Id} {K : AV → Ups → Prop} : CallsF P f vs m F K = CallsF P f vs m F K := rfl
@[congr] theorem ACalls_congr {tg : Nat} (htg : Tag = tg) {f : FuncId} {vs : List AV} {ms : List Blk} {R : AV → List Blk → List Blk → Prop} : ACalls P f vs ms R = ACalls P f vs ms R := rfl
@[congr] theorem awpLoop_congr {tg : Nat} (htg : Tag = tg) {step : Env → Mem → (Exit → Env → Mem → Prop) → Prop} {env env' : Env} {m m' : Mem} {K : Exit → Env → Mem → Prop} (h1 : env = env') (h2 : m = m') : awpLoop step env m K = awpLoop step env' m' K := by rw [h1, h2]
@[congr] theorem ares_congr {tg : Nat} (htg : Tag = tg) {env : Env} {m : Mem} {r : ResultVar} : ares P env m K r = ares P env m K r := rfl
@[congr] theorem aress_congr {tg : Nat} (htg : Tag = tg) {env : Env} {m : Mem} {rs rs' : List ResultVar} {K : List AV → Prop} (h1 : rs = rs') : aress P env m rs K = aress P env m rs' K := by rw [h1]
@[congr] theorem aleave_congr {tg : Nat} (htg : Tag = tg) {rs : List ResultVar} {R : AV → List Blk → List Blk → Prop} {x : Exit} {env : Env} {m : Mem} : aleave P rs R x env m = aleave P rs R x env m := rfl
end

/-- A call in a region that draws its order: it has one outcome. -/
def CallsX (P : Program) (f : FuncId) (vs : List AV) (m : Mem) (K : AV → Ups → List Id → Prop) : Prop := ∃ F v ups, CallsF P f vs m F (fun v' ups' => v' = v ∧ ups' = ups) ∧ K v ups F
@[congr] theorem CallsX_congr {tg : Nat} (htg : Tag = tg) {P : Program} {K3 : AV → Ups → List Id → Prop} {f : FuncId} {vs vs' : List AV} {m : Mem} (h : vs = vs') : CallsX P f vs m K3 = CallsX P f vs' m K3 := by rw [h]

/-! ### what is looked at first -/

/-- 'a' is made plain before anything of 'f' is looked at. -/
def on {α : Type} (a : α) (f : α → Prop) : Prop := f a
@[congr] theorem on_congr {tg : Nat} (htg : Tag = tg) {α : Type} {a a' : α} {f : α → Prop} (h : a = a') : on a f = on a' f := by rw [h]

section
variable {f : AV → Prop} {fB : Blk → Prop} {fT : Ty → Prop} {fb : Bool → Prop}
theorem on_top : on .top f = f .top := rfl
theorem on_b {x : Bool} : on (.b x) f = f (.b x) := rfl
theorem on_i {k : IntKind} {n : Int} : on (.i k n) f = f (.i k n) := rfl
theorem on_ref {a : Atom} : on (.ref a) f = f (.ref a) := rfl
theorem on_agg {g : Segs} : on (.agg g) f = f (.agg g) := rfl
theorem on_tup {l : List AV} : on (.tup l) f = f (.tup l) := rfl
theorem on_dead : on .dead fB = fB .dead := rfl
theorem on_lv {r : Bool} {g : Segs} : on (.lv r g) fB = fB (.lv r g) := rfl
theorem on_other : on .other fT = fT .other := rfl
theorem on_sc : on .sc fT = fT .sc := rfl
theorem on_bool : on .bool fT = fT .bool := rfl
theorem on_int {k : IntKind} : on (.int k) fT = fT (.int k) := rfl
theorem on_str : on .str fT = fT .str := rfl
theorem on_arr {a b c : Nat} : on (.arr a b c) fT = fT (.arr a b c) := rfl
theorem on_st {a : List (Nat × Nat)} {b : Nat} : on (.st a b) fT = fT (.st a b) := rfl
theorem on_sl {a b : Nat} : on (.sl a b) fT = fT (.sl a b) := rfl
theorem on_none {α : Type} {g : Option α → Prop} : on none g = g none := rfl
theorem on_some {α : Type} {g : Option α → Prop} {a : α} : on (some a) g = g (some a) := rfl
theorem on_true : on true fb = fb true := rfl
theorem on_false : on false fb = fb false := rfl
end

section
variable {P : Program} {K : AV → Prop} {K3 : AV → Ups → List Id → Prop} {KS : Segs → Prop}

theorem aopX_f {op : Op} {env : Env} {m : Mem} : aopX P false op env m K3 = aop P op env m K3 := rfl
theorem aopX_move {x : Operand} {env : Env} {m : Mem} : aopX P true (.move x) env m K3 = aop P (.move x) env m K3 := rfl
theorem aopX_assign {x : Operand} {env : Env} {m : Mem} : aopX P true (.assign x) env m K3 = aop P (.assign x) env m K3 := rfl
theorem aopX_pick {a b c : Operand} {env : Env} {m : Mem} : aopX P true (.pick c a b) env m K3 = aop P (.pick c a b) env m K3 := rfl
theorem aopX_alloc {t : TypeId} {env : Env} {m : Mem} : aopX P true (.alloc t) env m K3 = aop P (.alloc t) env m K3 := rfl
theorem aopX_box {t : TypeId} {x : Operand} {env : Env} {m : Mem} : aopX P true (.box t x) env m K3 = aop P (.box t x) env m K3 := rfl
theorem aopX_build {t : TypeId} {l : Array (Nat × Operand)} {env : Env} {m : Mem} : aopX P true (.build t l) env m K3 = aop P (.build t l) env m K3 := rfl
theorem aopX_buildSlice {t : TypeId} {n : Nat} {l : Array (Nat × Operand)} {env : Env} {m : Mem} : aopX P true (.buildSlice t n l) env m K3 = aop P (.buildSlice t n l) env m K3 := rfl
theorem aopX_load {t : TypeId} {x : Operand} {env : Env} {m : Mem} : aopX P true (.load t x) env m K3 = aop P (.load t x) env m K3 := rfl
theorem aopX_store {t : TypeId} {x y : Operand} {env : Env} {m : Mem} : aopX P true (.store t x y) env m K3 = aop P (.store t x y) env m K3 := rfl
theorem aopX_nilCheck {x : Operand} {env : Env} {m : Mem} : aopX P true (.nilCheck x) env m K3 = aop P (.nilCheck x) env m K3 := rfl
theorem aopX_binOp {op : BinOp} {t t' : TypeId} {x y : Operand} {env : Env} {m : Mem} : aopX P true (.binOp op t x y t') env m K3 = aop P (.binOp op t x y t') env m K3 := rfl
theorem aopX_unOp {op : UnOp} {t : TypeId} {x : Operand} {env : Env} {m : Mem} : aopX P true (.unOp op t x) env m K3 = aop P (.unOp op t x) env m K3 := rfl
theorem aopX_convert {s d : TypeId} {x : Operand} {env : Env} {m : Mem} : aopX P true (.convert s d x) env m K3 = aop P (.convert s d x) env m K3 := rfl
theorem aopX_makeFunc {f : Fn} {a b : _} {env : Env} {m : Mem} : aopX P true (.makeFunc f a b) env m K3 = aop P (.makeFunc f a b) env m K3 := rfl
theorem aopX_makeSlice {t : TypeId} {n c : Operand} {env : Env} {m : Mem} : aopX P true (.makeSlice t n c) env m K3 = aop P (.makeSlice t n c) env m K3 := rfl
theorem aopX_slice {t : TypeId} {x : Operand} {a b c : Option Operand} {env : Env} {m : Mem} : aopX P true (.slice t x a b c) env m K3 = aop P (.slice t x a b c) env m K3 := rfl
theorem aopX_fieldAddr {t : TypeId} {x : Operand} {f : Nat} {env : Env} {m : Mem} : aopX P true (.fieldAddr t x f) env m K3 = aop P (.fieldAddr t x f) env m K3 := rfl
theorem aopX_indexAddr {t : TypeId} {x i : Operand} {env : Env} {m : Mem} : aopX P true (.indexAddr t x i) env m K3 = aop P (.indexAddr t x i) env m K3 := rfl
theorem aopX_index {t : TypeId} {x i : Operand} {env : Env} {m : Mem} : aopX P true (.index t x i) env m K3 = aop P (.index t x i) env m K3 := rfl
theorem aopX_extract {x : Operand} {j : Nat} {env : Env} {m : Mem} : aopX P true (.extract x j) env m K3 = aop P (.extract x j) env m K3 := rfl
theorem aopX_builtin {b : Builtin} {a : _} {c : _} {env : Env} {m : Mem} : aopX P true (.call ⟨.builtin b, a, c⟩) env m K3 = aop P (.call ⟨.builtin b, a, c⟩) env m K3 := rfl
theorem aopX_call {f : Operand} {args : List Operand} {ts : Array TypeId} {env : Env} {m : Mem} : aopX P true (.call ⟨.value f, args.toArray, ts⟩) env m K3 = acallee env f (args.map (aev env)) fun f vs => CallsX P f vs m K3 := rfl
theorem chk_pure {all : List Oper} {j : Nat} {h : Hist} : chk all j [] [] h = True := by
  induction h with
  | nil => rfl
  | cons a h ih => obtain ⟨i, wr, rd⟩ := a; unfold chk; rw [ih]; simp [disj]
theorem chk_nil {all : List Oper} {j : Nat} {wr rd : List Id} : chk all j wr rd [] = True := rfl
theorem disj_nil (l : List Id) : disj l [] = true := by simp [disj]
theorem nil_disj (l : List Id) : disj [] l = true := by simp [disj]
theorem chk_r {all : List Oper} {i j : Nat} {rd rd' : List Id} {h : Hist} : chk all j [] rd ((i, [], rd') :: h) = chk all j [] rd h := by
  simp [chk, disj_nil, nil_disj]
theorem chk_w {all : List Oper} {i j : Nat} {wr rd : List Id} {h : Hist} : chk all j wr rd ((i, [], []) :: h) = chk all j wr rd h := by
  simp [chk, nil_disj]
theorem chk_wr {all : List Oper} {i j : Nat} {p q : Id} {rd : List Id} {h : Hist} (hp : p ≠ q) : chk all j [p] rd ((i, [], [q]) :: h) = chk all j [p] rd h := by
  have : (p == q) = false := by simpa using hp
  have h2 : (q == p) = false := by simpa using fun e => hp e.symm
  simp [chk, disj, this, h2, hp, Ne.symm hp]
theorem chk_rw {all : List Oper} {i j : Nat} {p q : Id} {rd : List Id} {h : Hist} (hp : p ≠ q) : chk all j [] [q] ((i, [p], []) :: h) = chk all j [] [q] h := by
  have : (p == q) = false := by simpa using hp
  have h2 : (q == p) = false := by simpa using fun e => hp e.symm
  simp [chk, disj, this, h2, hp, Ne.symm hp]
instance decChk (all : List Oper) (j : Nat) (wr rd : List Id) : (h : Hist) → Decidable (chk all j wr rd h)
  | [] => .isTrue trivial
  | (i, wr', rd') :: r => @instDecidableAnd _ _ _ (decChk all j wr rd r)
theorem awp_region {n : Nat} {l : List Oper} {d : Bool} {env : Env} {m : Mem} {K : Exit → Env → Mem → Prop} : awp P (.region n l.toArray d) env m K = aops P d l l 0 [] env m fun env m => K .normal env m := rfl
theorem aops_nil {d : Bool} {all : List Oper} {j : Nat} {h : Hist} {env : Env} {m : Mem} {K : Env → Mem → Prop} : aops P d all [] j h env m K = K env m := rfl
theorem aops_nf {all rest : List Oper} {dst : Option Tmp} {op : Op} {ty : TypeId} {pos : String} {aft : Array Edge} {j : Nat} {h : Hist} {env : Env} {m : Mem} {K : Env → Mem → Prop} : aops P false all (⟨dst, op, ty, pos, aft, none⟩ :: rest) j h env m K =
    aop P op env m fun v ups _ => aops P false all rest (j + 1) h (setD env dst v) (m.upd ups).tick K := rfl
theorem aops_nt {all rest : List Oper} {dst : Option Tmp} {op : Op} {ty : TypeId} {pos : String} {aft : Array Edge} {j : Nat} {h : Hist} {env : Env} {m : Mem} {K : Env → Mem → Prop} : aops P true all (⟨dst, op, ty, pos, aft, none⟩ :: rest) j h env m K =
    aopX P true op env m fun v ups rd => chk all j (ups.map (·.1)) rd h ∧ aops P true all rest (j + 1) ((j, ups.map (·.1), rd) :: h) (setD env dst v) (m.upd ups).tick K := rfl
theorem aops_gf {all rest : List Oper} {dst : Option Tmp} {op : Op} {ty : TypeId} {pos : String} {aft : Array Edge} {j : Nat} {h : Hist} {env : Env} {m : Mem} {K : Env → Mem → Prop} {g : Nat} {want : Bool} : aops P false all (⟨dst, op, ty, pos, aft, some (g, want)⟩ :: rest) j h env m K =
    on (dstOf all g) fun t => match t with
      | some t => on (lk env t) fun v => match v with
        | .b x => on x fun x =>
          if x = want then aop P op env m fun v ups _ => aops P false all rest (j + 1) h (setD env dst v) (m.upd ups).tick K
          else aops P false all rest (j + 1) h (setD env dst (.tup [])) m.tick K
        | .tup [] => aops P false all rest (j + 1) h (setD env dst (.tup [])) m.tick K
        | _ => False
      | none => False := rfl
theorem aops_gt {all rest : List Oper} {dst : Option Tmp} {op : Op} {ty : TypeId} {pos : String} {aft : Array Edge} {j : Nat} {h : Hist} {env : Env} {m : Mem} {K : Env → Mem → Prop} {g : Nat} {want : Bool} : aops P true all (⟨dst, op, ty, pos, aft, some (g, want)⟩ :: rest) j h env m K =
    on (dstOf all g) fun t => match t with
      | some t => on (lk env t) fun v => match v with
        | .b x => on x fun x =>
          if x = want then aopX P true op env m fun v ups rd => chk all j (ups.map (·.1)) rd h ∧ aops P true all rest (j + 1) ((j, ups.map (·.1), rd) :: h) (setD env dst v) (m.upd ups).tick K
          else aops P true all rest (j + 1) h (setD env dst (.tup [])) m.tick K
        | .tup [] => aops P true all rest (j + 1) h (setD env dst (.tup [])) m.tick K
        | _ => False
      | none => False := rfl

theorem aop_move {env : Env} {m : Mem} {x : Operand} : aop P (.move x) env m K3 = K3 (aev env x) [] [] := rfl
theorem aop_assign {env : Env} {m : Mem} {x : Operand} : aop P (.assign x) env m K3 = K3 (aev env x) [] [] := rfl
theorem aop_pick {env : Env} {m : Mem} {a b c : Operand} : aop P (.pick c a b) env m K3 = on (aev env c) fun v => match v with | .b g => K3 (pickV g (aev env a) (aev env b)) [] [] | _ => False := rfl
theorem aop_alloc {env : Env} {m : Mem} {t : TypeId} : aop P (.alloc t) env m K3 = on (zeroOf P t) fun z => match z with | some gs => K3 (.ref (.ptr m.next 0 0 0)) [((m.next, 0), .lv true gs)] [] | none => False := rfl
theorem aop_box {env : Env} {m : Mem} {t : TypeId} {x : Operand} : aop P (.box t x) env m K3 = on (segsOfAV (aev env x)) fun z => match z with | some gs => K3 (.ref (.ptr m.next 0 0 0)) [((m.next, 0), .lv true gs)] [] | none => False := rfl
theorem aop_build {env : Env} {m : Mem} {t : TypeId} {parts : List (Nat × Operand)} : aop P (.build t parts.toArray) env m K3 = abuild P t env parts fun gs => K3 (.agg gs) [] [] := rfl
theorem aop_buildSlice {env : Env} {m : Mem} {t : TypeId} {len : Nat} {parts : List (Nat × Operand)} : aop P (.buildSlice t len parts.toArray) env m K3 = abuildSlice P t len env parts fun gs esz => K3 (.ref (.sl m.next 0 0 0 len esz)) [((m.next, 0), .lv true gs)] [] := rfl
theorem aop_load {env : Env} {m : Mem} {t : TypeId} {x : Operand} : aop P (.load t x) env m K3 = aload P t env m x K3 := rfl
theorem aop_store {env : Env} {m : Mem} {t : TypeId} {x y : Operand} : aop P (.store t x y) env m K3 = astore P t env m x y K3 := rfl
theorem aop_nilCheck {env : Env} {m : Mem} {x : Operand} : aop P (.nilCheck x) env m K3 = on (aev env x) fun v => match v with | .ref (.ptr a k st off) => K3 (.ref (.ptr a k st off)) [] [] | .ref (.fn f cs) => K3 (.ref (.fn f cs)) [] [] | _ => False := rfl
theorem aop_binOp {env : Env} {m : Mem} {op : BinOp} {t t' : TypeId} {x y : Operand} : aop P (.binOp op t x y t') env m K3 = abin P op t (aev env x) (aev env y) fun v => K3 v [] [] := rfl
theorem aop_unOp {env : Env} {m : Mem} {op : UnOp} {t : TypeId} {x : Operand} : aop P (.unOp op t x) env m K3 = aun op (aev env x) fun v => K3 v [] [] := rfl
theorem aop_convert {env : Env} {m : Mem} {s d : TypeId} {x : Operand} : aop P (.convert s d x) env m K3 = aconvert P s d (aev env x) fun v => K3 v [] [] := rfl
theorem aop_makeFunc {env : Env} {m : Mem} {f : FuncId} {caps : List Operand} : aop P (.makeFunc (.func f) #[] caps.toArray) env m K3 = on (capsOf env caps) fun l => match l with | some l => K3 (.ref (.fn f l)) [] [] | none => False := rfl
theorem aop_makeSlice {env : Env} {m : Mem} {t : TypeId} {n c : Operand} : aop P (.makeSlice t n c) env m K3 = amakeSlice P t m (aev env n) (aev env c) K3 := rfl
theorem aop_slice {env : Env} {m : Mem} {t : TypeId} {x : Operand} {lo hi : Option Operand} : aop P (.slice t x lo hi none) env m K3 = aslice P t (aev env x) (lo.map (aev env)) (hi.map (aev env)) fun v => K3 v [] [] := rfl
theorem aop_fieldAddr {env : Env} {m : Mem} {t : TypeId} {x : Operand} {f : Nat} : aop P (.fieldAddr t x f) env m K3 = afieldAddr P t (aev env x) f fun v => K3 v [] [] := rfl
theorem aop_indexAddr {env : Env} {m : Mem} {t : TypeId} {x i : Operand} : aop P (.indexAddr t x i) env m K3 = aindexAddr P t (aev env x) (aev env i) fun v => K3 v [] [] := rfl
theorem aop_index {env : Env} {m : Mem} {t : TypeId} {x i : Operand} : aop P (.index t x i) env m K3 = aindex P t (aev env x) (aev env i) fun v => K3 v [] [] := rfl
theorem aop_extract {env : Env} {m : Mem} {x : Operand} {j : Nat} : aop P (.extract x j) env m K3 = on (aev env x) fun v => match v with | .tup vs => on vs[j]? fun v => (match v with | some v => K3 v [] [] | none => False) | _ => False := rfl
theorem aop_call {env : Env} {m : Mem} {f : Operand} {args : List Operand} {ts : Array TypeId} : aop P (.call ⟨.value f, args.toArray, ts⟩) env m K3 = acallee env f (args.map (aev env)) fun f vs => CallsVia P f vs m K3 := rfl
theorem aop_builtin {env : Env} {m : Mem} {b : Builtin} {args : List Operand} {ts : List TypeId} : aop P (.call ⟨.builtin b, args.toArray, ts.toArray⟩) env m K3 = abuiltin P b ts m (args.map (aev env)) K3 := rfl

theorem acallee_on {env : Env} {x : Operand} {vs : List AV} {K : FuncId → List AV → Prop} : acallee env x vs K = on (aev env x) fun v => match v with | .ref (.fn f caps) => K f (vs ++ capArgs caps) | _ => False := rfl
theorem aload_on {t : TypeId} {env : Env} {m : Mem} {x : Operand} : aload P t env m x K3 = on (aev env x) fun v => match v with
  | .ref (.ptr a k st off) => on (m.get a k) fun b => match b with
    | .lv _ gs => on (tyOf P t) fun ty => match ty with
      | .arr _ _ sz => 0 < sz ∧ ldAg gs st off sz fun v => K3 v [] [(a, k)]
      | .st _ sz => 0 < sz ∧ ldAg gs st off sz fun v => K3 v [] [(a, k)]
      | .other => False
      | _ => ldSc gs st off fun v => K3 v [] [(a, k)]
    | .dead => False
  | _ => False := rfl
theorem astore_on {t : TypeId} {env : Env} {m : Mem} {x v : Operand} : astore P t env m x v K3 = on (aev env x) fun p => on (segsOfAV (aev env v)) fun vs => match p, vs with
  | .ref (.ptr a k st off), some vs => on (m.get a k) fun b => match b with
    | .lv true gs => segsLen vs = szOf P t ∧ (P.info? t).isSome = true ∧ stSegs gs st off vs fun gs' => K3 .top [((a, k), .lv true gs')] []
    | _ => False
  | _, _ => False := rfl
theorem ldSc_on {gs : Segs} {st off : Nat} : ldSc gs st off K = on (seg? gs st) fun s => match s with
  | some (.ints k n xs) => off < n ∧ K (.i k (xs.getD off 0))
  | some (.bools n xs) => off < n ∧ K (.b (xs.getD off false))
  | some (.cells n vs) => off < n ∧ K (.ref (vs.getD off .top))
  | none => False := rfl
theorem ldMulti_on {gs : Segs} {st off sz : Nat} : ldMulti gs st off sz K = (off = 0 ∧ on (takeSz st (dropTo gs st) sz) fun s => match s with
  | some hs => K (.agg hs)
  | none => False) := rfl
theorem ldAg_on {gs : Segs} {st off sz : Nat} : ldAg gs st off sz K = on (seg? gs st) fun s => match s with
  | some (.ints k n xs) =>
    if n = sz then off = 0 ∧ K (.agg [(0, .ints k n xs)])
    else if sz < n then off + sz ≤ n ∧ K (.agg [(0, .ints k sz ((xs.drop off).take sz))])
    else ldMulti gs st off sz K
  | some (.bools n xs) =>
    if n = sz then off = 0 ∧ K (.agg [(0, .bools n xs)])
    else if sz < n then off + sz ≤ n ∧ K (.agg [(0, .bools sz ((xs.drop off).take sz))])
    else ldMulti gs st off sz K
  | some (.cells _ _) => ldMulti gs st off sz K
  | none => False := rfl
theorem stMulti_nil {gs : Segs} {st : Nat} : stMulti gs st [] KS = KS gs := rfl
theorem stMulti_cons {gs r : Segs} {st s : Nat} {g' : Sg} : stMulti gs st ((s, g') :: r) KS = on (seg? gs (st + s)) fun x => match x with
    | some g => g.len = g'.len ∧ splice g 0 g' fun g2 => stMulti (updSeg gs (st + s) g2) st r KS
    | none => False := rfl
theorem stSegs_one {gs : Segs} {st off s : Nat} {g' : Sg} : stSegs gs st off [(s, g')] KS = on (seg? gs st) fun x => match x with
    | some g => splice g off g' fun g2 => KS (updSeg gs st g2)
    | none => False := rfl
theorem stSegs_nil {gs : Segs} {st off : Nat} : stSegs gs st off [] KS = (off = 0 ∧ (seg? gs st).isSome = true ∧ stMulti gs st [] KS) := rfl
theorem stSegs_more {gs : Segs} {st off : Nat} {x y : Nat × Sg} {r : Segs} : stSegs gs st off (x :: y :: r) KS = (off = 0 ∧ (seg? gs st).isSome = true ∧ stMulti gs st (x :: y :: r) KS) := rfl
theorem aparts_nil {pl : Nat → Option (Nat × Nat × Nat)} {env : Env} {gs : Segs} : aparts P pl env [] gs KS = KS gs := rfl
theorem aparts_cons {pl : Nat → Option (Nat × Nat × Nat)} {env : Env} {gs : Segs} {j : Nat} {x : Operand} {r : List (Nat × Operand)} : aparts P pl env ((j, x) :: r) gs KS = on (pl j) fun p => on (segsOfAV (aev env x)) fun vs => match p, vs with
    | some (st, off, sz), some vs => segsLen vs = sz ∧ stSegs gs st off vs fun gs' => aparts P pl env r gs' KS
    | _, _ => False := rfl
theorem abuild_on {t : TypeId} {env : Env} {l : List (Nat × Operand)} : abuild P t env l KS = on (zeroOf P t) fun z => on (tyOf P t) fun ty => match z, ty with
  | some gs, .st offs _ => offs.all (fun p => 0 < p.2) = true ∧ aparts P (fun j => (offs[j]?).map fun p => (p.1, 0, p.2)) env l gs KS
  | some gs, .arr _ esz _ => 0 < esz ∧ aparts P (fun j => some (0, j * esz, esz)) env l gs KS
  | _, _ => False := rfl
theorem abuildSlice_on {t : TypeId} {len : Nat} {env : Env} {l : List (Nat × Operand)} {K : Segs → Nat → Prop} : abuildSlice P t len env l K = on (tyOf P t) fun ty => on (zeroEl P (elOf P t)) fun z => match ty, z with
  | .sl esz _, some z => 0 < esz ∧ z.len = esz ∧ len * esz ≤ 16777216 ∧ aparts P (fun j => some (0, j * esz, esz)) env l [(0, zeroArr len z)] fun gs => K gs esz
  | _, _ => False := rfl
theorem aindexAddr_ptr {t : TypeId} {a k st off : Nat} {k2 : IntKind} {n : Int} : aindexAddr P t (.ref (.ptr a k st off)) (.i k2 n) K = on (tyOf P t) fun ty => match ty with
    | .arr len esz _ => 0 < esz ∧ 0 ≤ n ∧ n < len ∧ K (.ref (.ptr a k st (off + n.toNat * esz)))
    | _ => False := rfl
theorem aindexAddr_sl {t : TypeId} {a k st off len esz : Nat} {k2 : IntKind} {n : Int} : aindexAddr P t (.ref (.sl a k st off len esz)) (.i k2 n) K = on (tyOf P t) fun ty => match ty with
    | .sl e _ => e = esz ∧ 0 < esz ∧ 0 ≤ n ∧ n < len ∧ K (.ref (.ptr a k st (off + n.toNat * esz)))
    | _ => False := rfl
theorem aindex_agg {t : TypeId} {gs : Segs} {k2 : IntKind} {n : Int} : aindex P t (.agg gs) (.i k2 n) K = on (tyOf P t) fun ty => match ty with
    | .arr len esz _ => 0 ≤ n ∧ n < len ∧ 0 < esz ∧ on (tyOf P (arrEl P t)) fun ty => match ty with
      | .arr _ _ _ => ldAg gs 0 (n.toNat * esz) esz K
      | .st _ _ => ldAg gs 0 (n.toNat * esz) esz K
      | .other => False
      | _ => esz = 1 ∧ ldSc gs 0 n.toNat K
    | _ => False := rfl
theorem aindex_str {t : TypeId} {x : ByteArray} {k2 : IntKind} {n : Int} : aindex P t (.ref (.s x)) (.i k2 n) K = on (tyOf P t) fun ty => match ty with
    | .str => 0 ≤ n ∧ n < x.size ∧ K (.i .u8 (x.data.getD n.toNat 0).toNat)
    | _ => False := rfl
theorem afieldAddr_on {t : TypeId} {a k st off f : Nat} : afieldAddr P t (.ref (.ptr a k st off)) f K = on (tyOf P t) fun ty => match ty with
  | .st offs _ => on offs[f]? fun q => match q with
    | some p => 0 < p.2 ∧ off = 0 ∧ K (.ref (.ptr a k (st + p.1) 0))
    | none => False
  | _ => False := by unfold afieldAddr on; cases tyOf P t <;> rfl
theorem aconvert_on {s d : TypeId} {k2 : IntKind} {n : Int} : aconvert P s d (.i k2 n) K = on (tyOf P s) fun x => on (tyOf P d) fun y => match x, y with
  | .int _, .int k => K (.i k (k.wrap n))
  | _, _ => False := by unfold aconvert on; cases tyOf P s <;> cases tyOf P d <;> rfl
theorem asliceHi_none {n : Nat} {K : Nat → Prop} : asliceHi none n K = K n := rfl
theorem asliceHi_some {k : IntKind} {x : Int} {n : Nat} {K : Nat → Prop} : asliceHi (some (.i k x)) n K = (0 ≤ x ∧ x ≤ n ∧ K x.toNat) := rfl
theorem asliceLo_none {n : Nat} {K : Nat → Prop} : asliceLo none n K = K 0 := rfl
theorem asliceLo_some {k : IntKind} {x : Int} {n : Nat} {K : Nat → Prop} : asliceLo (some (.i k x)) n K = (0 ≤ x ∧ x ≤ n ∧ K x.toNat) := rfl
theorem aslice_sl {t : TypeId} {a k st off len esz : Nat} {lo hi : Option AV} : aslice P t (.ref (.sl a k st off len esz)) lo hi K = on (tyOf P t) fun ty => match ty with
  | .sl e _ => e = esz ∧ 0 < esz ∧ asliceHi hi len fun h => asliceLo lo h fun l => K (.ref (.sl a k st (off + l * esz) (h - l) esz))
  | _ => False := by unfold aslice on; cases tyOf P t <;> rfl
theorem aslice_str {t : TypeId} {x : ByteArray} {lo hi : Option AV} : aslice P t (.ref (.s x)) lo hi K = on (tyOf P t) fun ty => match ty with
  | .str => asliceHi hi x.size fun h => asliceLo lo h fun l => K (.ref (.s (x.extract l h)))
  | _ => False := by unfold aslice on; cases tyOf P t <;> rfl
theorem alen_on {t : TypeId} {x : AV} : alen P t x K = on (tyOf P t) fun ty => on x fun x => match ty, x with
  | .sl _ _, .ref (.sl _ _ _ _ n _) => K (.i .i64 n)
  | .sl _ _, .ref .nils => K (.i .i64 0)
  | .sl _ _, .ref .sl0 => K (.i .i64 0)
  | .arr n _ _, _ => K (.i .i64 n)
  | .str, .ref (.s x) => K (.i .i64 x.size)
  | _, _ => False := rfl
theorem slCells_nils {m : Mem} {esz : Nat} {z : Zk} {K : Sg → Nat → List Id → Prop} : slCells m (.ref .nils) esz z K = K (zeroArr 0 z) 0 [] := rfl
theorem slCells_sl {m : Mem} {a k st off len e esz : Nat} {z : Zk} {K : Sg → Nat → List Id → Prop} : slCells m (.ref (.sl a k st off len e)) esz z K = on (m.get a k) fun b => match b with
    | .lv _ gs => on (seg? gs st) fun s => match s with
      | some g => e = esz ∧ off + len * esz ≤ g.len ∧ K (subSg' g off (len * esz)) len [(a, k)]
      | none => False
    | .dead => False := rfl
theorem killed_nils {m : Mem} {K : Ups → Prop} : killed m (.ref .nils) K = K [] := rfl
theorem killed_sl {m : Mem} {a k st off len e : Nat} {K : Ups → Prop} : killed m (.ref (.sl a k st off len e)) K = on (m.get a k) fun b => match b with | .lv true _ => K [((a, k), .dead)] | _ => False := rfl
theorem aappend_on {t : TypeId} {m : Mem} {s x : AV} : aappend P t m s x K3 = on (tyOf P t) fun ty => on (zeroEl P (elOf P t)) fun z => match ty, z with
  | .sl esz bytes, some z =>
    0 < esz ∧ 0 < bytes ∧ z.len = esz ∧ notNil x ∧
    slCells m s esz z fun g n rd => slCells m x esz z fun h n' rd' => (n + n') * bytes ≤ 140737488355328 ∧ (isNil s → 0 < n') ∧ killed m s fun ks =>
      catSg g h fun g2 => K3 (.ref (.sl m.next 0 0 0 (n + n') esz)) (ks ++ [((m.next, 0), .lv true [(0, g2)])]) (rd ++ rd')
  | _, _ => False := rfl
theorem amakeSlice_on {t : TypeId} {m : Mem} {n c : Int} : amakeSlice P t m (.i .i64 n) (.i .i64 c) K3 = on (tyOf P t) fun ty => on (zeroEl P (elOf P t)) fun z => match ty, z with
  | .sl esz bytes, some z =>
    0 < esz ∧ 0 < bytes ∧ z.len = esz ∧ 0 ≤ n ∧ n = c ∧ c * bytes ≤ 140737488355328 ∧ K3 (.ref (.sl m.next 0 0 0 n.toNat esz)) [((m.next, 0), .lv true [(0, zeroArr n.toNat z)])] []
  | _, _ => False := by unfold amakeSlice on; cases tyOf P t <;> cases zeroEl P (elOf P t) <;> rfl
theorem awp_cond {c : Operand} {t e : Code} {env : Env} {m : Mem} {K : Exit → Env → Mem → Prop} : awp P (.cond c t e) env m K = on (aev env c) fun v => match v with
    | .b x => on x fun x => if x = true then awp P t env m K else awp P e env m K
    | _ => False := rfl
theorem abin_ints {op : BinOp} {t : TypeId} {k k' : IntKind} {a b : Int} : abin P op t (.i k a) (.i k' b) K = if isShift op then intShift op k a b K else k = k' ∧ intBin op k a b K := rfl
theorem abin_bools {op : BinOp} {t : TypeId} {a b : Bool} : abin P op t (.b a) (.b b) K = match op with
    | .eql => tyOf P t = .bool ∧ K (.b (a == b))
    | .neq => tyOf P t = .bool ∧ K (.b (!(a == b)))
    | _ => False := rfl
theorem abin_aggs {op : BinOp} {t : TypeId} {gs hs : Segs} : abin P op t (.agg gs) (.agg hs) K = on (eqSegs gs hs) fun r => match op, r with
    | .eql, some r => eqTy P t (shapes gs) = true ∧ K (.b r)
    | .neq, some r => eqTy P t (shapes gs) = true ∧ K (.b (!r))
    | _, _ => False := rfl
theorem eqSegs_nil : eqSegs [] [] = some true := rfl
theorem eqSegs_ii {st st' n : Nat} {k : IntKind} {xs ys : List Int} {r s : Segs} : eqSegs ((st, .ints k n xs) :: r) ((st', .ints k n ys) :: s) = (eqSegs r s).map (fun y => decide (xs = ys) && y) := by
  simp only [eqSegs, eqSg, and_self, if_true]
  cases eqSegs r s <;> rfl
theorem eqSegs_bb {st st' n : Nat} {xs ys : List Bool} {r s : Segs} : eqSegs ((st, .bools n xs) :: r) ((st', .bools n ys) :: s) = (eqSegs r s).map (fun y => decide (xs = ys) && y) := by
  simp only [eqSegs, eqSg, if_true]
  cases eqSegs r s <;> rfl
theorem ares_tmp {env : Env} {m : Mem} {t : Tmp} : ares P env m K (.tmp t) = K (lk env t) := rfl
theorem ares_cell {env : Env} {m : Mem} {t : Tmp} {ty : TypeId} : ares P env m K (.cell t ty) = aload P ty env m (.tmp t) fun v _ _ => K v := rfl
end

/-! ### calls, as they are met -/

theorem CallsVia.intro {P : Program} {f : FuncId} {vs : List AV} {m : Mem} {K : AV → Ups → List Id → Prop} (F : List Id) (hn : F.Nodup) (hl : ∀ p ∈ F, m.get p.1 p.2 ≠ .dead)
    {R : AV → List Blk → List Blk → Prop} (h : ACalls P f (renVs (renIn F) vs) (argBlks m F) R)
    (hK : ∀ r xs ns, R r xs ns → K (renV (renOut m.next F) r) (zipUps (renOut m.next F) F xs ++ newUps (renOut m.next F) m.next 0 ns) F) : CallsVia P f vs m K := by
  refine ⟨F, hn, hl, h.1, fun ρ own w vals a b c d => (h.2 ρ own w vals a b c d).mono ?_⟩
  rintro e w' ⟨r, xs, ns, val, ρ', e1, e2, e3⟩
  exact ⟨r, xs, ns, val, ρ', e1, hK r xs ns e2, e3⟩

/-- A call that is handed no memory. -/
theorem CallsVia.none {P : Program} {f : FuncId} {vs : List AV} {m : Mem} {K : AV → Ups → List Id → Prop} {R : AV → List Blk → List Blk → Prop} (h : ACalls P f (renVs (renIn []) vs) [] R)
    (hK : ∀ r xs ns, R r xs ns → K (renV (renOut m.next []) r) (newUps (renOut m.next []) m.next 0 ns) []) : CallsVia P f vs m K := by
  refine CallsVia.intro [] List.nodup_nil (fun p hp => by cases hp) h fun r xs ns hR => ?_
  simpa [zipUps] using hK r xs ns hR

theorem ACalls.mono {P : Program} {f : FuncId} {vs : List AV} {ms : List Blk} {R R' : AV → List Blk → List Blk → Prop} (h : ACalls P f vs ms R) (hr : ∀ r xs ns, R r xs ns → R' r xs ns) : ACalls P f vs ms R' := by
  refine ⟨h.1, fun ρ own w vals a b c d => (h.2 ρ own w vals a b c d).mono ?_⟩
  rintro e w' ⟨r, xs, ns, val, ρ', e1, e2, e3⟩
  exact ⟨r, xs, ns, val, ρ', e1, hr r xs ns e2, e3⟩

/-- The same in a region that draws its order: the outcome is named. -/
theorem CallsX.intro {P : Program} {f : FuncId} {vs : List AV} {m : Mem} {K : AV → Ups → List Id → Prop} (F : List Id) (hn : F.Nodup) (hl : ∀ p ∈ F, m.get p.1 p.2 ≠ .dead)
    {r : AV} {xs ns : List Blk} (h : ACalls P f (renVs (renIn F) vs) (argBlks m F) (fun r' xs' ns' => r' = r ∧ xs' = xs ∧ ns' = ns))
    (hK : K (renV (renOut m.next F) r) (zipUps (renOut m.next F) F xs ++ newUps (renOut m.next F) m.next 0 ns) F) :
    CallsX P f vs m K :=
  ⟨F, _, _, ⟨hn, hl, h.mono fun r' xs' ns' ⟨e1, e2, e3⟩ => by subst e1; subst e2; subst e3; exact ⟨rfl, rfl⟩⟩, hK⟩

theorem CallsX.none {P : Program} {f : FuncId} {vs : List AV} {m : Mem} {K : AV → Ups → List Id → Prop}
    {r : AV} {ns : List Blk} (h : ACalls P f (renVs (renIn []) vs) [] (fun r' xs' ns' => r' = r ∧ xs' = [] ∧ ns' = ns))
    (hK : K (renV (renOut m.next []) r) (newUps (renOut m.next []) m.next 0 ns) []) :
    CallsX P f vs m K :=
  CallsX.intro [] List.nodup_nil (fun p hp => by cases hp) h (by simpa [zipUps] using hK)

/-! ### loops -/

/-- The round has come to its end: the next one begins in a state of the same form. -/
def LoopNext {α : Type} (E : α → Env) (M : α → Mem) (inv : α → Prop) (meas : α → Nat) (n : Nat) (e : Env) (m : Mem) : Prop :=
  ∃ n' env2 m2, n' < n ∧ Weak e m env2 m2 ∧ ∃ a, inv a ∧ meas a = n' ∧ env2 = E a ∧ m2 = M a

theorem LoopNext.intro {α : Type} {E : α → Env} {M : α → Mem} {inv : α → Prop} {meas : α → Nat} {n : Nat} {e : Env} {m : Mem} (a : α) (hi : inv a) (hn : meas a < n) (hw : Weak e m (E a) (M a)) : LoopNext E M inv meas n e m :=
  ⟨meas a, E a, M a, hn, hw, a, hi, rfl, rfl, rfl⟩

theorem awpLoop.intro {α : Type} (E : α → Env) (M : α → Mem) (inv : α → Prop) (meas : α → Nat) {step : Env → Mem → (Exit → Env → Mem → Prop) → Prop} {env : Env} {m : Mem} {K : Exit → Env → Mem → Prop}
    (a0 : α) (h0 : inv a0) (hw : Weak env m (E a0) (M a0))
    (h : ∀ a, inv a → step (E a) (M a) fun x e' m' => match x with
      | .normal => LoopNext E M inv meas (meas a) e' m'
      | x => K x e' m') : awpLoop step env m K := by
  refine ⟨fun n e m => ∃ a, inv a ∧ meas a = n ∧ e = E a ∧ m = M a, ⟨meas a0, E a0, M a0, hw, a0, h0, rfl, rfl, rfl⟩, ?_⟩
  rintro n e m ⟨a, hi, rfl, rfl, rfl⟩
  exact h a hi

@[congr] theorem LoopNext_congr {tg : Nat} (htg : Tag = tg) {α : Type} {E : α → Env} {M : α → Mem} {inv : α → Prop} {meas : α → Nat} {n : Nat} {e e' : Env} {m m' : Mem} (h1 : e = e') (h2 : m = m') : LoopNext E M inv meas n e m = LoopNext E M inv meas n e' m' := by rw [h1, h2]

@[congr] theorem Fin_congr {tg : Nat} (htg : Tag = tg) {R : AV → List Blk → List Blk → Prop} {m m' : Mem} {v v' : AV} (h1 : m = m') (h2 : v = v') : Abs.Fin R m v = Abs.Fin R m' v' := by rw [h1, h2]

end Go.Abs

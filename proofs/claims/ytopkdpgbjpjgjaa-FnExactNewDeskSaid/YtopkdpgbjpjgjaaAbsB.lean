/-
How the abstract values read as values of the model, what a contract of a function says, and the walk of a body in these words. No proof here.
-/
import Derived.Test.YtopkdpgbjpjgjaaAbsA
namespace Go.Abs
open Go
set_option linter.unusedVariables false
set_option linter.unusedSectionVars false
set_option linter.unusedSimpArgs false
set_option linter.defProp false

/-- Where a block of the abstract memory lies: the block, the first cell, how many cells the block has. -/
abbrev Rho := Nat → Nat → Option (Nat × Nat × Nat)

def RelCaps (ρ : Rho) : List (Nat × Nat × Nat × Nat) → List Value → Prop
  | [], l => l = []
  | (a, k, st, off) :: r, l => ∃ p l', ρ a k = some p ∧ l = .pointer (some ⟨p.1, p.2.1 + st + off, none⟩) :: l' ∧ RelCaps ρ r l'

def RelAt (ρ : Rho) : Atom → Value → Prop
  | .top, v => v.oneCell' = true
  | .s x, v => v = .string x
  | .ptr a k st off, v => ∃ p, ρ a k = some p ∧ v = .pointer (some ⟨p.1, p.2.1 + st + off, none⟩)
  | .nilp, v => v = .pointer none
  | .sl a k st off len esz, v => ∃ p cap, ρ a k = some p ∧ len ≤ cap ∧
      ((v = .slice (some ⟨p.1, p.2.1 + st + off, none⟩) len cap ∧ p.2.1 + st + off + cap * esz ≤ p.2.2) ∨ (len = 0 ∧ ∃ ad, v = .slice (some ad) 0 0))
  | .nils, v => v = .slice none 0 0
  | .sl0, v => ∃ a cap, v = .slice a 0 cap
  | .fn f caps, v => ∃ cs : List Value, v = .func (.func f) #[] cs.toArray ∧ RelCaps ρ caps cs
  | .nilf, v => v = .nilFunc

def RelAts (ρ : Rho) : List Atom → List Value → Prop
  | [], l => l = []
  | a :: r, l => ∃ v l', l = v :: l' ∧ RelAt ρ a v ∧ RelAts ρ r l'

def RelSg (ρ : Rho) : Sg → List Value → Prop
  | .ints k n xs, l => xs.length = n ∧ l = xs.map (Value.int k)
  | .bools n xs, l => xs.length = n ∧ l = xs.map Value.bool
  | .cells n vs, l => vs.length = n ∧ RelAts ρ vs l

def RelSegs (ρ : Rho) : Nat → Segs → List Value → Prop
  | _, [], l => l = []
  | s, (st, g) :: r, l => st = s ∧ ∃ l1 l2, l = l1 ++ l2 ∧ RelSg ρ g l1 ∧ RelSegs ρ (s + g.len) r l2

mutual
def RelV (ρ : Rho) : AV → Value → Prop
  | .top, _ => True
  | .b x, v => v = .bool x
  | .i k n, v => v = .int k n
  | .ref a, v => RelAt ρ a v
  | .agg gs, v => ∃ cs : List Value, v = .agg cs.toArray ∧ RelSegs ρ 0 gs cs
  | .tup vs, v => ∃ l : List Value, v = .tuple l.toArray ∧ RelVs ρ vs l
def RelVs (ρ : Rho) : List AV → List Value → Prop
  | [], l => l = []
  | a :: r, l => ∃ v l', l = v :: l' ∧ RelV ρ a v ∧ RelVs ρ r l'
end

/-- A block of the model holds these segments. -/
def Holds (ρ : Rho) (w : World) (p : Nat × Nat × Nat) (gs : Segs) (fz : Nat × Nat) : Prop :=
  ∃ arr T pre l post, w.heap[p.1]? = some (.cells arr T fz) ∧ arr.toList = pre ++ l ++ post ∧ pre.length = p.2.1 ∧ arr.size = p.2.2 ∧ RelSegs ρ 0 gs l

/-- 'own': the blocks that may be written. -/
structure MemRel (ρ : Rho) (own : Nat → Prop) (get : Nat → Nat → Blk) (w : World) : Prop where
  holds : ∀ a k rw gs, get a k = .lv rw gs → ∃ p fz, ρ a k = some p ∧ Holds ρ w p gs fz ∧ (rw = true → fz = (0, 0) ∧ own p.1) ∧ (rw = false → ¬ own p.1)
  apart : ∀ a k a' k' gs gs' p p', get a k = .lv true gs → get a' k' = .lv true gs' → ρ a k = some p → ρ a' k' = some p' → p.1 = p'.1 → a = a' ∧ k = k'
  there : ∀ a k p, ρ a k = some p → ∃ arr T fz, w.heap[p.1]? = some (.cells arr T fz) ∧ arr.size = p.2.2
  rws : ∀ a k rw gs, a ≠ 0 → get a k = .lv rw gs → rw = true

structure Kept (own : Nat → Prop) (w w' : World) : Prop where
  grows : w.heap.size ≤ w'.heap.size
  same : ∀ b, b < w.heap.size → ¬ own b → w'.heap[b]? = w.heap[b]?
  sizes : ∀ (b : Nat) (arr : Array Value) (T : TypeId) (fz : Nat × Nat), w.heap[b]? = some (.cells arr T fz) → ∃ (arr' : Array Value) (T' : TypeId) (fz' : Nat × Nat), w'.heap[b]? = some (.cells arr' T' fz') ∧ arr'.size = arr.size
  os : w'.os = w.os
  out : w'.output = w.output
  frz : ∀ a, w'.frozen? a = w.frozen? a

def getArgs (ms : List Blk) : Nat → Nat → Blk := fun a k => if a = 0 then ms.getD k .dead else .dead
def getOut (as ns : List Blk) : Nat → Nat → Blk := fun a k => if a = 0 then as.getD k .dead else if a = 1 then ns.getD k .dead else .dead

def Okf (P : Program) (f : FuncId) : Prop := ∃ fn c, P.funcs[f]? = some fn ∧ fn.body = some c ∧ (fn.name == "runtime.NumGoroutine") = false

/-- WHAT A CONTRACT SAYS: called with values that read as 'vs' over the memory 'ms', the function returns; its result, the memory that came in and the memory that is new read as R says; nothing else has changed. -/
def ACalls (P : Program) (f : FuncId) (vs : List AV) (ms : List Blk) (R : AV → List Blk → List Blk → Prop) : Prop :=
  Okf P f ∧ ∀ (ρ : Rho) (own : Nat → Prop) (w : World) (vals : List Value),
    (∀ a k, a ≠ 0 → ρ a k = none) → (∀ b, own b → b < w.heap.size) → MemRel ρ own (getArgs ms) w → RelVs ρ vs vals →
    Calls P f vals.toArray w fun e w' => ∃ r as ns val ρ', e = .returned val ∧ R r as ns ∧ as.length = ms.length ∧ RelV ρ' r val ∧
      MemRel ρ' (fun b => own b ∨ w.heap.size ≤ b) (getOut as ns) w' ∧ (∀ k, ρ' 0 k = ρ 0 k) ∧ (∀ a k, 2 ≤ a → ρ' a k = none) ∧ Kept own w w'

def capArgs (caps : List (Nat × Nat × Nat × Nat)) : List AV := caps.map fun c => .ref (.ptr c.1 c.2.1 c.2.2.1 c.2.2.2)

/-- A call with the memory that its arguments lead to (F). -/
def CallsF (P : Program) (f : FuncId) (vs : List AV) (m : Mem) (F : List Id) (K : AV → Ups → Prop) : Prop :=
  F.Nodup ∧ (∀ p ∈ F, (m.get p.1 p.2) ≠ .dead) ∧
    ACalls P f (renVs (renIn F) vs) (argBlks m F) fun r as ns =>
      K (renV (renOut m.next F) r) (zipUps (renOut m.next F) F as ++ newUps (renOut m.next F) m.next 0 ns)

def CallsVia (P : Program) (f : FuncId) (vs : List AV) (m : Mem) (K : AV → Ups → List Id → Prop) : Prop :=
  ∃ F : List Id, CallsF P f vs m F fun v ups => K v ups F

def acallee (env : Env) (x : Operand) (vs : List AV) (K : FuncId → List AV → Prop) : Prop :=
  match aev env x with
  | .ref (.fn f caps) => K f (vs ++ capArgs caps)
  | _ => False

def abuiltin (P : Program) (b : Builtin) (ts : List TypeId) (m : Mem) (vs : List AV) (K : AV → Ups → List Id → Prop) : Prop :=
  match b, ts, vs with
  | .len, [t], [x] => alen P t x fun v => K v [] []
  | .append, [t, t'], [s, x] => t = t' ∧ aappend P t m s x K
  | _, _, _ => False

/-- One operation: its value, the blocks that it writes or makes (new ones under the name 'm.next'), and those that it reads. -/
def aop (P : Program) (op : Op) (env : Env) (m : Mem) (K : AV → Ups → List Id → Prop) : Prop :=
  match op with
  | .move x => K (aev env x) [] []
  | .assign x => K (aev env x) [] []
  | .pick c a b => match aev env c with | .b g => K (pickV g (aev env a) (aev env b)) [] [] | _ => False
  | .alloc t => match zeroOf P t with | some gs => K (.ref (.ptr m.next 0 0 0)) [((m.next, 0), .lv true gs)] [] | none => False
  | .box _ x => match segsOfAV (aev env x) with | some gs => K (.ref (.ptr m.next 0 0 0)) [((m.next, 0), .lv true gs)] [] | none => False
  | .build t parts => abuild P t env parts.toList fun gs => K (.agg gs) [] []
  | .buildSlice t len parts => abuildSlice P t len env parts.toList fun gs esz => K (.ref (.sl m.next 0 0 0 len esz)) [((m.next, 0), .lv true gs)] []
  | .load t x => aload P t env m x K
  | .store t x v => astore P t env m x v K
  | .nilCheck x => match aev env x with | .ref (.ptr a k st off) => K (.ref (.ptr a k st off)) [] [] | .ref (.fn f cs) => K (.ref (.fn f cs)) [] [] | _ => False
  | .binOp op t x y _ => abin P op t (aev env x) (aev env y) fun v => K v [] []
  | .unOp op _ x => aun op (aev env x) fun v => K v [] []
  | .convert s d x => aconvert P s d (aev env x) fun v => K v [] []
  | .makeFunc (.func f) first caps => if first.isEmpty then (match capsOf env caps.toList with | some l => K (.ref (.fn f l)) [] [] | none => False) else False
  | .makeSlice t n c => amakeSlice P t m (aev env n) (aev env c) K
  | .slice t x lo hi none => aslice P t (aev env x) (lo.map (aev env)) (hi.map (aev env)) fun v => K v [] []
  | .fieldAddr t x f => afieldAddr P t (aev env x) f fun v => K v [] []
  | .indexAddr t x i => aindexAddr P t (aev env x) (aev env i) fun v => K v [] []
  | .index t x i => aindex P t (aev env x) (aev env i) fun v => K v [] []
  | .extract x j => match aev env x with | .tup vs => (match vs[j]? with | some v => K v [] [] | none => False) | _ => False
  | .call c =>
    match c.callee with
    | .value f => acallee env f (c.args.toList.map (aev env)) fun f vs => CallsVia P f vs m K
    | .builtin b => abuiltin P b c.argTypes.toList m (c.args.toList.map (aev env)) K
    | .invoke _ _ => False
  | _ => False

def setD (env : Env) : Option Nat → AV → Env
  | none, _ => env
  | some d, v => (d, v) :: env

def dstOf (ops : List Oper) (j : Nat) : Option Nat := (ops[j]?).bind (·.dst)

/-- What the earlier operations of a region wrote and read. -/
abbrev Hist := List (Nat × List Id × List Id)

def disj (a b : List Id) : Bool := a.all fun p => !b.contains p

def ordB (ops : List Oper) (i j : Nat) : Bool := ((Region.before ops.toArray).getD j 0).testBit i

def chk (ops : List Oper) (j : Nat) (wr rd : List Id) : Hist → Prop
  | [] => True
  | (i, wr', rd') :: r => ((disj wr' rd && disj wr' wr && disj rd' wr) || ordB ops i j) = true ∧ chk ops j wr rd r

/-- In a region that draws its order a call has to have one outcome. -/
def aopX (P : Program) (draw : Bool) (op : Op) (env : Env) (m : Mem) (K : AV → Ups → List Id → Prop) : Prop :=
  if draw then
    match op with
    | .call { callee := .value f, args, .. } => acallee env f (args.toList.map (aev env)) fun f vs => ∃ F v ups, CallsF P f vs m F (fun v' ups' => v' = v ∧ ups' = ups) ∧ K v ups F
    | op => aop P op env m K
  else aop P op env m K

def aops (P : Program) (draw : Bool) (all : List Oper) : List Oper → Nat → Hist → Env → Mem → (Env → Mem → Prop) → Prop
  | [], _, _, env, m, K => K env m
  | o :: rest, j, h, env, m, K =>
    match o.guard with
    | none => aopX P draw o.op env m fun v ups rd =>
        if draw then chk all j (ups.map (·.1)) rd h ∧ aops P draw all rest (j + 1) ((j, ups.map (·.1), rd) :: h) (setD env o.dst v) (m.upd ups).tick K
        else aops P draw all rest (j + 1) h (setD env o.dst v) (m.upd ups).tick K
    | some (g, want) =>
      match dstOf all g with
      | some t =>
        match lk env t with
        | .b x =>
          if x = want then aopX P draw o.op env m fun v ups rd =>
            if draw then chk all j (ups.map (·.1)) rd h ∧ aops P draw all rest (j + 1) ((j, ups.map (·.1), rd) :: h) (setD env o.dst v) (m.upd ups).tick K
            else aops P draw all rest (j + 1) h (setD env o.dst v) (m.upd ups).tick K
          else aops P draw all rest (j + 1) h (setD env o.dst (.tup [])) m.tick K
        | .tup [] => aops P draw all rest (j + 1) h (setD env o.dst (.tup [])) m.tick K
        | _ => False
      | none => False

/-! ### leaving names behind -/

def renTo (σ : List (Id × Id)) : Ren := fun a k => if a = 0 then some (0, k) else
  match σ with
  | [] => none
  | (p, q) :: r => if p.1 = a ∧ p.2 = k then some q else renTo r a k

def wkLoc (m : Mem) (ρ : Ren) : List (Id × Id) → List (Id × Blk)
  | [] => []
  | (p, q) :: r => (q, renBlk ρ (m.get p.1 p.2)) :: wkLoc m ρ r

def wkMem (σ : List (Id × Id)) (next : Nat) (m : Mem) : Mem :=
  { args := m.args.map (renBlk (renTo σ)), loc := wkLoc m (renTo σ) σ, next := next }

def wkOk (σ : List (Id × Id)) (next : Nat) : Bool :=
  σ.all (fun x => x.1.1 != 0 && x.2.1 != 0 && decide (x.2.1 < next)) && decide ((σ.map (·.1)).Nodup) && decide ((σ.map (·.2)).Nodup) && decide (0 < next)

def wkEnv (σ : List (Id × Id)) (env : Env) : Env → Prop
  | [] => True
  | (t, v) :: r => v = renV (renTo σ) (lk env t) ∧ wkEnv σ env r

/-- The state 'env', 'm' is one of 'env2', 'm2', names and what is no longer asked left behind. -/
def Weak (env : Env) (m : Mem) (env2 : Env) (m2 : Mem) : Prop :=
  ∃ σ, wkOk σ m2.next = true ∧ wkEnv σ env env2 ∧ m2 = wkMem σ m2.next m

def awpLoop (step : Env → Mem → (Exit → Env → Mem → Prop) → Prop) (env : Env) (m : Mem) (K : Exit → Env → Mem → Prop) : Prop :=
  ∃ I : Nat → Env → Mem → Prop, (∃ n env2 m2, Weak env m env2 m2 ∧ I n env2 m2) ∧
    ∀ n e m, I n e m → step e m fun x e' m' =>
      match x with
      | .normal => ∃ n' env2 m2, n' < n ∧ Weak e' m' env2 m2 ∧ I n' env2 m2
      | x => K x e' m'

def awp (P : Program) : Code → Env → Mem → (Exit → Env → Mem → Prop) → Prop
  | .skip, env, m, K => K .normal env m
  | .region _ ops draw, env, m, K => aops P draw ops.toList ops.toList 0 [] env m fun env m => K .normal env m
  | .seq a b, env, m, K => awp P a env m fun x env m => match x with | .normal => awp P b env m K | x => K x env m
  | .cond c t e, env, m, K =>
    match aev env c with
    | .b x => if x = true then awp P t env m K else awp P e env m K
    | _ => False
  | .block id body, env, m, K => awp P body env m fun x env m => match x with | .exit j => if j = id then K .normal env m else K (.exit j) env m | x => K x env m
  | .loop body, env, m, K => awpLoop (fun e m K' => awp P body e m K') env m K
  | .exit id, env, m, K => K (.exit id) env m
  | .ret, env, m, K => K .ret env m
  | _, _, _, _ => False

/-! ### a whole body -/

def ares (P : Program) (env : Env) (m : Mem) (K : AV → Prop) : ResultVar → Prop
  | .tmp t => K (lk env t)
  | .cell t ty => aload P ty env m (.tmp t) fun v _ _ => K v

def aress (P : Program) (env : Env) (m : Mem) : List ResultVar → (List AV → Prop) → Prop
  | [], K => K []
  | r :: rs, K => ares P env m (fun v => aress P env m rs fun vs => K (v :: vs)) r

def tupOf : List AV → AV
  | [v] => v
  | vs => .tup vs

/-- The names of what is handed back: the argument's own, and those that are new. -/
def renFin (keep : List Id) : Ren := fun a k => if a = 0 then some (0, k) else (idx keep a k).map fun j => (1, j)

def Fin (R : AV → List Blk → List Blk → Prop) (m : Mem) (r : AV) : Prop :=
  ∃ keep : List Id, keep.Nodup ∧ (∀ p ∈ keep, p.1 ≠ 0) ∧
    R (renV (renFin keep) r) (m.args.map (renBlk (renFin keep))) (keep.map fun p => renBlk (renFin keep) (m.get p.1 p.2))

def params : Nat → List AV → Env
  | _, [] => []
  | n, v :: r => (n, v) :: params (n + 1) r

def aleave (P : Program) (rs : List ResultVar) (R : AV → List Blk → List Blk → Prop) : Exit → Env → Mem → Prop
  | .normal, env, m => aress P env m rs fun vs => Fin R m (tupOf vs)
  | .ret, env, m => aress P env m rs fun vs => Fin R m (tupOf vs)
  | _, _, _ => False

def abody (P : Program) (c : Code) (rs : List ResultVar) (vs : List AV) (ms : List Blk) (R : AV → List Blk → List Blk → Prop) : Prop :=
  awp P c (params 0 vs) { args := ms, loc := [], next := 1 } (aleave P rs R)

/-! ### what a body has to be like -/

def dstsOk (n : Nat) (ops : List Oper) : Bool := ops.all fun o => match o.dst with | some d => decide (d < n) | none => true

def looks (ops : List Oper) (o : Oper) : List Nat :=
  (o.op.operands.toList.filterMap fun | .tmp t => some t | _ => none) ++ (match o.guard with | some (g, _) => (dstOf ops g).toList | none => [])

def slotsOk (ops : List Oper) : Bool :=
  let b := Region.before ops.toArray
  (List.range ops.length).all fun j => (List.range ops.length).all fun i =>
    match ops[i]?, ops[j]? with
    | some oi, some oj =>
      match oi.dst with
      | some d => i == j || !((looks ops oj).contains d || oj.dst == some d) || (if i < j then (b.getD j 0).testBit i else (b.getD i 0).testBit j)
      | none => true
    | _, _ => true

def edgesOk (ops : List Oper) : Bool :=
  (List.range ops.length).all fun j => match ops[j]? with
    | some o => o.after.toList.all fun e => !Region.binds .any e || decide (e.on < j)
    | none => true

def codeOk (n : Nat) : Code → Bool
  | .region _ ops draw => dstsOk n ops.toList && (!draw || (slotsOk ops.toList && edgesOk ops.toList))
  | .seq a b => codeOk n a && codeOk n b
  | .cond _ a b => codeOk n a && codeOk n b
  | .block _ b => codeOk n b
  | .loop b => codeOk n b
  | _ => true

def funOk (f : Func) : Bool := (match f.body with | some c => codeOk f.ntmps c | none => false) && !(f.name == "runtime.NumGoroutine") && decide (f.params.size + f.nfree ≤ f.ntmps)

end Go.Abs

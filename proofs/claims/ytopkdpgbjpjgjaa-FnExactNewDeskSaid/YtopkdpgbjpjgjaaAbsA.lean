/-
The words of an abstract reading of Go code: values, segments of memory, and what one operation, one region and one body make of them. No proof in this file; the next one shows that the reading is sound.
-/
import Derived.WalkKit
namespace Go.Abs
open Go
set_option linter.unusedVariables false
set_option linter.unusedSectionVars false
set_option linter.unusedSimpArgs false
set_option linter.defProp false

/-- What one cell holds, if it is no number and no bool. Memory is named by two numbers (a, k): a = 0 for what came in. -/
inductive Atom where
  | top
  | s (x : ByteArray)
  | ptr (a k st off : Nat)
  | nilp
  | sl (a k st off len esz : Nat)
  | nils
  | sl0
  | fn (f : FuncId) (caps : List (Nat × Nat × Nat × Nat))
  | nilf

/-- A row of cells of one kind, with its length. -/
inductive Sg where
  | ints (k : IntKind) (n : Nat) (xs : List Int)
  | bools (n : Nat) (xs : List Bool)
  | cells (n : Nat) (vs : List Atom)

def Sg.len : Sg → Nat
  | .ints _ n _ => n
  | .bools n _ => n
  | .cells n _ => n

/-- Segments, each with the place where it begins. -/
abbrev Segs := List (Nat × Sg)

inductive AV where
  | top
  | b (x : Bool)
  | i (k : IntKind) (n : Int)
  | ref (a : Atom)
  | agg (gs : Segs)
  | tup (vs : List AV)

inductive Blk where
  | dead
  | lv (rw : Bool) (gs : Segs)

abbrev Id := Nat × Nat

structure Mem where
  args : List Blk
  loc : List (Id × Blk)
  next : Nat

abbrev Env := List (Nat × AV)

def lk : Env → Nat → AV
  | [], _ => .top
  | (t, v) :: r, u => if t = u then v else lk r u

def assoc : List (Id × Blk) → Nat → Nat → Blk
  | [], _, _ => .dead
  | (p, b) :: r, a, k => if p.1 = a ∧ p.2 = k then b else assoc r a k

def Mem.get (m : Mem) (a k : Nat) : Blk := if a = 0 then m.args.getD k .dead else assoc m.loc a k

def Mem.put (m : Mem) (p : Id) (b : Blk) : Mem :=
  if p.1 = 0 then { m with args := m.args.set p.2 b } else { m with loc := (p, b) :: m.loc }

abbrev Ups := List (Id × Blk)

def Mem.upd (m : Mem) : Ups → Mem
  | [] => m
  | (p, b) :: r => (m.put p b).upd r

def Mem.tick (m : Mem) : Mem := { m with next := m.next + 1 }

/-! ### types -/

inductive Ty where
  | other
  | sc
  | bool
  | int (k : IntKind)
  | str
  | arr (n esz sz : Nat)
  | st (offs : List (Nat × Nat)) (sz : Nat)
  | sl (esz bytes : Nat)

def szOf (P : Program) (t : TypeId) : Nat := ((P.info? t).map (·.size)).getD 0
def bytesOf (P : Program) (t : TypeId) : Nat := ((P.info? t).map (·.bytes)).getD 0

def tyOf (P : Program) (t : TypeId) : Ty :=
  match P.underlying t with
  | some (.array n e) => .arr n (szOf P e) (szOf P t)
  | some (.struct fs) => .st (fs.toList.map fun f => (f.offset, szOf P f.type)) (szOf P t)
  | some (.slice e) => .sl (szOf P e) (bytesOf P e)
  | some .string => .str
  | some (.int k) => .int k
  | some .bool => .bool
  | some _ => .sc
  | none => .other

/-- The element type of a slice type. -/
def elOf (P : Program) (t : TypeId) : TypeId :=
  match P.underlying t with
  | some (.slice e) => e
  | _ => t

/-- The kinds of the segments of a variable. -/
inductive Lk where
  | ints (k : IntKind)
  | bools
  | cells
  deriving DecidableEq

def layOf (P : Program) : Nat → TypeId → List (Nat × Lk)
  | 0, _ => []
  | d + 1, t =>
    match P.underlying t with
    | some (.int k) => [(1, .ints k)]
    | some .bool => [(1, .bools)]
    | some (.array n e) =>
      match layOf P d e with
      | [(m, k)] => [(n * m, k)]
      | _ => []
    | some (.struct fs) => fs.toList.flatMap fun f => layOf P d f.type
    | some _ => [(1, .cells)]
    | none => []

def intsOf (k : IntKind) : List Value → Option (List Int)
  | [] => some []
  | .int k' n :: r => if k' = k then (intsOf k r).map (n :: ·) else none
  | _ => none
def boolsOf : List Value → Option (List Bool)
  | [] => some []
  | .bool x :: r => (boolsOf r).map (x :: ·)
  | _ => none
def atomOf : Value → Option Atom
  | .string s => some (.s s)
  | .pointer none => some .nilp
  | .slice none 0 0 => some .nils
  | .nilFunc => some .nilf
  | _ => none
def atomsOf : List Value → Option (List Atom)
  | [] => some []
  | v :: r => match atomOf v, atomsOf r with
    | some a, some l => some (a :: l)
    | _, _ => none

def segOf (n : Nat) (vs : List Value) : Lk → Option Sg
  | .ints k => (intsOf k vs).map (.ints k n)
  | .bools => (boolsOf vs).map (.bools n)
  | .cells => (atomsOf vs).map (.cells n)

def segsOf : Nat → List (Nat × Lk) → List Value → Option Segs
  | _, [], [] => some []
  | _, [], _ => none
  | s, (n, k) :: r, vs =>
    if (vs.take n).length = n then
      match segOf n (vs.take n) k, segsOf (s + n) r (vs.drop n) with
      | some g, some gs => some ((s, g) :: gs)
      | _, _ => none
    else none

/-- The zero value of a type, as segments. -/
def zeroOf (P : Program) (t : TypeId) : Option Segs :=
  match (P.info? t).bind (·.zero) with
  | some z => segsOf 0 (layOf P 6 t) z.cells.toList
  | none => none

/-- The zero of a slice's element: its kind and its number of cells. -/
inductive Zk where
  | ints (k : IntKind) (m : Nat)
  | bools (m : Nat)
  | cells (a : Atom)

def zeroEl (P : Program) (t : TypeId) : Option Zk :=
  match zeroOf P t with
  | some [(_, .ints k m xs)] => if xs.all (· == 0) then some (.ints k m) else none
  | some [(_, .bools m xs)] => if xs.all (!·) then some (.bools m) else none
  | some [(_, .cells 1 [a])] => some (.cells a)
  | _ => none

def Zk.len : Zk → Nat
  | .ints _ m => m
  | .bools m => m
  | .cells _ => 1

def zeroArr (n : Nat) : Zk → Sg
  | .ints k m => .ints k (n * m) (List.replicate (n * m) 0)
  | .bools m => .bools (n * m) (List.replicate (n * m) false)
  | .cells a => .cells n (List.replicate n a)

/-! ### reading and writing segments -/

def seg? : Segs → Nat → Option Sg
  | [], _ => none
  | (s, g) :: r, st => if s = st then some g else seg? r st

def updSeg : Segs → Nat → Sg → Segs
  | [], _, _ => []
  | (s, g) :: r, st, g' => if s = st then (s, g') :: r else (s, g) :: updSeg r st g'

/-- A single cell. -/
def ldSc (gs : Segs) (st off : Nat) (K : AV → Prop) : Prop :=
  match seg? gs st with
  | some (.ints k n xs) => off < n ∧ K (.i k (xs.getD off 0))
  | some (.bools n xs) => off < n ∧ K (.b (xs.getD off false))
  | some (.cells n vs) => off < n ∧ K (.ref (vs.getD off .top))
  | none => False

/-- The segments from a place on. -/
def dropTo : Segs → Nat → Segs
  | [], _ => []
  | (s, g) :: r, st => if s = st then (s, g) :: r else dropTo r st

/-- As many segments as make 'sz' cells, their places counted from 'st'. -/
def takeSz (st : Nat) : Segs → Nat → Option Segs
  | _, 0 => some []
  | [], _ + 1 => none
  | (s, g) :: r, n + 1 => if g.len ≤ n + 1 ∧ 0 < g.len then (takeSz st r (n + 1 - g.len)).map ((s - st, g) :: ·) else none

def ldMulti (gs : Segs) (st off sz : Nat) (K : AV → Prop) : Prop :=
  off = 0 ∧ match takeSz st (dropTo gs st) sz with
  | some hs => K (.agg hs)
  | none => False

def ldAg (gs : Segs) (st off sz : Nat) (K : AV → Prop) : Prop :=
  match seg? gs st with
  | some (.ints k n xs) =>
    if n = sz then off = 0 ∧ K (.agg [(0, .ints k n xs)])
    else if sz < n then off + sz ≤ n ∧ K (.agg [(0, .ints k sz ((xs.drop off).take sz))])
    else ldMulti gs st off sz K
  | some (.bools n xs) =>
    if n = sz then off = 0 ∧ K (.agg [(0, .bools n xs)])
    else if sz < n then off + sz ≤ n ∧ K (.agg [(0, .bools sz ((xs.drop off).take sz))])
    else ldMulti gs st off sz K
  | some (.cells _ _) => ldMulti gs st off sz K
  | none => False

def spl {α : Type} (xs : List α) (off : Nat) (ys : List α) : List α :=
  match ys with
  | [y] => xs.set off y
  | ys => xs.take off ++ ys ++ xs.drop (off + ys.length)

/-- One segment stored into one. -/
def splice (g : Sg) (off : Nat) (g' : Sg) (K : Sg → Prop) : Prop :=
  match g, g' with
  | .ints k n xs, .ints k' m ys => k = k' ∧ if m = n then off = 0 ∧ K (.ints k n ys) else off + m ≤ n ∧ K (.ints k n (spl xs off ys))
  | .bools n xs, .bools m ys => if m = n then off = 0 ∧ K (.bools n ys) else off + m ≤ n ∧ K (.bools n (spl xs off ys))
  | .cells n xs, .cells m ys => if m = n then off = 0 ∧ K (.cells n ys) else off + m ≤ n ∧ K (.cells n (spl xs off ys))
  | _, _ => False

def stMulti (gs : Segs) (st : Nat) : Segs → (Segs → Prop) → Prop
  | [], K => K gs
  | (s, g') :: r, K =>
    match seg? gs (st + s) with
    | some g => g.len = g'.len ∧ splice g 0 g' fun g2 => stMulti (updSeg gs (st + s) g2) st r K
    | none => False

def stSegs (gs : Segs) (st off : Nat) (vs : Segs) (K : Segs → Prop) : Prop :=
  match vs with
  | [(_, g')] =>
    match seg? gs st with
    | some g => splice g off g' fun g2 => K (updSeg gs st g2)
    | none => False
  | vs => off = 0 ∧ (seg? gs st).isSome = true ∧ stMulti gs st vs K

def segsOfAV : AV → Option Segs
  | .b x => some [(0, .bools 1 [x])]
  | .i k n => some [(0, .ints k 1 [n])]
  | .ref a => some [(0, .cells 1 [a])]
  | .agg gs => some gs
  | _ => none

def segsLen : Segs → Nat
  | [] => 0
  | (_, g) :: r => g.len + segsLen r

/-! ### operands -/

def ofConst : Value → AV
  | .int k n => .i k n
  | .bool x => .b x
  | .string s => .ref (.s s)
  | .pointer none => .ref .nilp
  | .slice none 0 0 => .ref .nils
  | .nilFunc => .ref .nilf
  | _ => .top

def aev (env : Env) : Operand → AV
  | .tmp t => lk env t
  | .const v => ofConst v
  | .func f => .ref (.fn f [])
  | .global _ => .top

/-! ### renaming -/

abbrev Ren := Nat → Nat → Option Id

def renCaps (σ : Ren) : List (Nat × Nat × Nat × Nat) → Option (List (Nat × Nat × Nat × Nat))
  | [] => some []
  | (a, k, st, off) :: r =>
    match σ a k, renCaps σ r with
    | some p, some l => some ((p.1, p.2, st, off) :: l)
    | _, _ => none

def renAt (σ : Ren) : Atom → Atom
  | .ptr a k st off => match σ a k with | some p => .ptr p.1 p.2 st off | none => .top
  | .sl a k st off len esz => match σ a k with | some p => .sl p.1 p.2 st off len esz | none => .top
  | .fn f caps => match renCaps σ caps with | some l => .fn f l | none => .top
  | x => x

def renSg (σ : Ren) : Sg → Sg
  | .cells n vs => .cells n (vs.map (renAt σ))
  | g => g

def renSegs (σ : Ren) : Segs → Segs
  | [] => []
  | (s, g) :: r => (s, renSg σ g) :: renSegs σ r

mutual
def renV (σ : Ren) : AV → AV
  | .ref a => .ref (renAt σ a)
  | .agg gs => .agg (renSegs σ gs)
  | .tup vs => .tup (renVs σ vs)
  | .top => .top
  | .b x => .b x
  | .i k n => .i k n
def renVs (σ : Ren) : List AV → List AV
  | [] => []
  | v :: r => renV σ v :: renVs σ r
end

def renBlk (σ : Ren) : Blk → Blk
  | .dead => .dead
  | .lv rw gs => .lv rw (renSegs σ gs)

/-! ### calls -/

def idx (F : List Id) (a k : Nat) : Option Nat :=
  match F with
  | [] => none
  | p :: r => if p.1 = a ∧ p.2 = k then some 0 else (idx r a k).map (· + 1)

def renIn (F : List Id) : Ren := fun a k => (idx F a k).map fun j => (0, j)

def renOut (nid : Nat) (F : List Id) : Ren := fun a k =>
  if a = 0 then F[k]? else if a = 1 then some (nid, k) else none

def argBlks (m : Mem) (F : List Id) : List Blk := F.map fun p => renBlk (renIn F) (m.get p.1 p.2)

def zipUps (σ : Ren) : List Id → List Blk → Ups
  | p :: F, b :: r => (p, renBlk σ b) :: zipUps σ F r
  | _, _ => []

def newUps (σ : Ren) (nid : Nat) : Nat → List Blk → Ups
  | _, [] => []
  | j, b :: r => ((nid, j), renBlk σ b) :: newUps σ nid (j + 1) r

def idsAt : Atom → List Id
  | .ptr a k _ _ => [(a, k)]
  | .sl a k _ _ _ _ => [(a, k)]
  | .fn _ caps => caps.map fun c => (c.1, c.2.1)
  | _ => []
def idsSg : Sg → List Id
  | .cells _ vs => vs.flatMap idsAt
  | _ => []
def idsSegs : Segs → List Id
  | [] => []
  | (_, g) :: r => idsSg g ++ idsSegs r
def idsV : AV → List Id
  | .ref a => idsAt a
  | .agg gs => idsSegs gs
  | _ => []

def foot : Nat → Mem → List Id → List Id → List Id
  | 0, _, _, acc => acc
  | _ + 1, _, [], acc => acc
  | n + 1, m, p :: todo, acc =>
    if acc.contains p then foot n m todo acc
    else foot n m ((match m.get p.1 p.2 with | .lv _ gs => idsSegs gs | .dead => []) ++ todo) (acc ++ [p])

/-! ### values of operations -/

def intBin (op : BinOp) (k : IntKind) (x y : Int) (K : AV → Prop) : Prop :=
  match op with
  | .add => K (.i k (k.wrap (x + y)))
  | .sub => K (.i k (k.wrap (x - y)))
  | .mul => K (.i k (k.wrap (x * y)))
  | .quo => y ≠ 0 ∧ K (.i k (k.wrap (x.tdiv y)))
  | .rem => y ≠ 0 ∧ K (.i k (x.tmod y))
  | .and => K (.i k (k.wrap (BitVec.ofInt k.bits x &&& BitVec.ofInt k.bits y).toNat))
  | .or => K (.i k (k.wrap (BitVec.ofInt k.bits x ||| BitVec.ofInt k.bits y).toNat))
  | .xor => K (.i k (k.wrap (BitVec.ofInt k.bits x ^^^ BitVec.ofInt k.bits y).toNat))
  | .andNot => K (.i k (k.wrap (BitVec.ofInt k.bits x &&& ~~~ BitVec.ofInt k.bits y).toNat))
  | .eql => K (.b (decide (x = y)))
  | .neq => K (.b (!decide (x = y)))
  | .lss => K (.b (decide (x < y)))
  | .leq => K (.b (decide (x ≤ y)))
  | .gtr => K (.b (decide (x > y)))
  | .geq => K (.b (decide (x ≥ y)))
  | _ => False

def intShift (op : BinOp) (k : IntKind) (x y : Int) (K : AV → Prop) : Prop :=
  match op with
  | .shl => 0 ≤ y ∧ K (.i k (k.wrap (x * 2 ^ (min y.toNat k.bits))))
  | .shr => 0 ≤ y ∧ K (.i k (x.fdiv (2 ^ (min y.toNat k.bits))))
  | _ => False

def isShift : BinOp → Bool
  | .shl | .shr => true
  | _ => false

/-! ### equality of structs and arrays -/

inductive Kd where
  | int (k : IntKind)
  | bool
  deriving DecidableEq

def repl (l : List Kd) : Nat → List Kd
  | 0 => []
  | n + 1 => l ++ repl l n

def kdsF (P : Program) (f : TypeId → Option (List Kd)) : Nat → List Field → Option (List Kd)
  | _, [] => some []
  | off, g :: r =>
    match f g.type with
    | some l => if g.name ≠ "_" ∧ g.offset = off ∧ (P.info? g.type).isSome = true ∧ szOf P g.type = l.length then (kdsF P f (off + l.length) r).map (l ++ ·) else none
    | none => none

/-- The kinds of the cells of a type that is built of integers and truths alone. -/
def kds (P : Program) : Nat → TypeId → Option (List Kd)
  | 0, _ => none
  | d + 1, t =>
    match P.underlying t with
    | some (.int k) => some [.int k]
    | some .bool => some [.bool]
    | some (.array n e) =>
      match kds P d e with
      | some l => if (P.info? e).isSome = true ∧ szOf P e = l.length then some (repl l n) else none
      | none => none
    | some (.struct fs) => if P.stoodInHeld t = true then none else kdsF P (kds P d) 0 fs.toList
    | _ => none

def kdsSg : List (Kd × Nat) → List Kd
  | [] => []
  | (k, n) :: r => List.replicate n k ++ kdsSg r

def shapes : Segs → List (Kd × Nat)
  | [] => []
  | (_, .ints k n _) :: r => (.int k, n) :: shapes r
  | (_, .bools n _) :: r => (.bool, n) :: shapes r
  | (_, .cells _ _) :: r => (.bool, 0) :: shapes r

def eqTy (P : Program) (t : TypeId) (l : List (Kd × Nat)) : Bool :=
  decide (kds P 6 t = some (kdsSg l)) && !P.eqGuardType P.depth t && (match P.underlying t with | some (.array ..) | some (.struct ..) => true | _ => false)

def eqSg : Sg → Sg → Option Bool
  | .ints k n xs, .ints k' m ys => if k = k' ∧ n = m then some (decide (xs = ys)) else none
  | .bools n xs, .bools m ys => if n = m then some (decide (xs = ys)) else none
  | _, _ => none

def eqSegs : Segs → Segs → Option Bool
  | [], [] => some true
  | (_, g) :: r, (_, h) :: s =>
    match eqSg g h with
    | some x => match eqSegs r s with
      | some y => some (x && y)
      | none => none
    | none => none
  | _, _ => none

def abin (P : Program) (op : BinOp) (t : TypeId) (x y : AV) (K : AV → Prop) : Prop :=
  match x, y with
  | .i k a, .i k' b => if isShift op then intShift op k a b K else k = k' ∧ intBin op k a b K
  | .b a, .b b =>
    match op with
    | .eql => tyOf P t = .bool ∧ K (.b (a == b))
    | .neq => tyOf P t = .bool ∧ K (.b (!(a == b)))
    | _ => False
  | .agg gs, .agg hs =>
    match op, eqSegs gs hs with
    | .eql, some r => eqTy P t (shapes gs) = true ∧ K (.b r)
    | .neq, some r => eqTy P t (shapes gs) = true ∧ K (.b (!r))
    | _, _ => False
  | _, _ => False

def aun (op : UnOp) (x : AV) (K : AV → Prop) : Prop :=
  match op, x with
  | .not, .b x => K (.b !x)
  | .neg, .i k n => K (.i k (k.wrap (0 - n)))
  | _, _ => False

def pickV (g : Bool) (x y : AV) : AV :=
  match x, y with
  | .b u, .b v => .b (bif g then u else v)
  | x, y => bif g then x else y

def aload (P : Program) (t : TypeId) (env : Env) (m : Mem) (x : Operand) (K : AV → Ups → List Id → Prop) : Prop :=
  match aev env x with
  | .ref (.ptr a k st off) =>
    match m.get a k with
    | .lv _ gs =>
      match tyOf P t with
      | .arr _ _ sz => 0 < sz ∧ ldAg gs st off sz fun v => K v [] [(a, k)]
      | .st _ sz => 0 < sz ∧ ldAg gs st off sz fun v => K v [] [(a, k)]
      | .other => False
      | _ => ldSc gs st off fun v => K v [] [(a, k)]
    | .dead => False
  | _ => False

def astore (P : Program) (t : TypeId) (env : Env) (m : Mem) (x v : Operand) (K : AV → Ups → List Id → Prop) : Prop :=
  match aev env x, segsOfAV (aev env v) with
  | .ref (.ptr a k st off), some vs =>
    match m.get a k with
    | .lv true gs => segsLen vs = szOf P t ∧ (P.info? t).isSome = true ∧ stSegs gs st off vs fun gs' => K .top [((a, k), .lv true gs')] []
    | _ => False
  | _, _ => False

def aparts (P : Program) (pl : Nat → Option (Nat × Nat × Nat)) (env : Env) : List (Nat × Operand) → Segs → (Segs → Prop) → Prop
  | [], gs, K => K gs
  | (j, x) :: r, gs, K =>
    match pl j, segsOfAV (aev env x) with
    | some (st, off, sz), some vs => segsLen vs = sz ∧ stSegs gs st off vs fun gs' => aparts P pl env r gs' K
    | _, _ => False

def abuild (P : Program) (t : TypeId) (env : Env) (parts : List (Nat × Operand)) (K : Segs → Prop) : Prop :=
  match zeroOf P t, tyOf P t with
  | some gs, .st offs _ => offs.all (fun p => 0 < p.2) = true ∧ aparts P (fun j => (offs[j]?).map fun p => (p.1, 0, p.2)) env parts gs K
  | some gs, .arr _ esz _ => 0 < esz ∧ aparts P (fun j => some (0, j * esz, esz)) env parts gs K
  | _, _ => False

def abuildSlice (P : Program) (t : TypeId) (len : Nat) (env : Env) (parts : List (Nat × Operand)) (K : Segs → Nat → Prop) : Prop :=
  match tyOf P t, zeroEl P (elOf P t) with
  | .sl esz _, some z => 0 < esz ∧ z.len = esz ∧ len * esz ≤ 16777216 ∧ aparts P (fun j => some (0, j * esz, esz)) env parts [(0, zeroArr len z)] fun gs => K gs esz
  | _, _ => False

def capsOf (env : Env) : List Operand → Option (List (Nat × Nat × Nat × Nat))
  | [] => some []
  | x :: r =>
    match aev env x, capsOf env r with
    | .ref (.ptr a k st off), some l => some ((a, k, st, off) :: l)
    | _, _ => none

def aindexAddr (P : Program) (t : TypeId) (x i : AV) (K : AV → Prop) : Prop :=
  match x, i with
  | .ref (.ptr a k st off), .i _ n =>
    match tyOf P t with
    | .arr len esz _ => 0 < esz ∧ 0 ≤ n ∧ n < len ∧ K (.ref (.ptr a k st (off + n.toNat * esz)))
    | _ => False
  | .ref (.sl a k st off len esz), .i _ n =>
    match tyOf P t with
    | .sl e _ => e = esz ∧ 0 < esz ∧ 0 ≤ n ∧ n < len ∧ K (.ref (.ptr a k st (off + n.toNat * esz)))
    | _ => False
  | _, _ => False

def arrEl (P : Program) (t : TypeId) : TypeId :=
  match P.underlying t with
  | some (.array _ e) => e
  | _ => t

def aindex (P : Program) (t : TypeId) (x i : AV) (K : AV → Prop) : Prop :=
  match x, i with
  | .agg gs, .i _ n =>
    match tyOf P t with
    | .arr len esz _ => 0 ≤ n ∧ n < len ∧ 0 < esz ∧
      match tyOf P (arrEl P t) with
      | .arr _ _ _ => ldAg gs 0 (n.toNat * esz) esz K
      | .st _ _ => ldAg gs 0 (n.toNat * esz) esz K
      | .other => False
      | _ => esz = 1 ∧ ldSc gs 0 n.toNat K
    | _ => False
  | .ref (.s x), .i _ n =>
    match tyOf P t with
    | .str => 0 ≤ n ∧ n < x.size ∧ K (.i .u8 (x.data.getD n.toNat 0).toNat)
    | _ => False
  | _, _ => False

def afieldAddr (P : Program) (t : TypeId) (x : AV) (f : Nat) (K : AV → Prop) : Prop :=
  match x, tyOf P t with
  | .ref (.ptr a k st off), .st offs _ =>
    match offs[f]? with
    | some p => 0 < p.2 ∧ off = 0 ∧ K (.ref (.ptr a k (st + p.1) 0))
    | none => False
  | _, _ => False

def isInt (P : Program) (t : TypeId) : Bool := match tyOf P t with | .int _ => true | _ => false

def aconvert (P : Program) (src dst : TypeId) (x : AV) (K : AV → Prop) : Prop :=
  match tyOf P src, tyOf P dst, x with
  | .int _, .int k, .i _ n => K (.i k (k.wrap n))
  | _, _, _ => False

def asliceHi (hi : Option AV) (len : Nat) (K : Nat → Prop) : Prop :=
  match hi with
  | none => K len
  | some (.i _ n) => 0 ≤ n ∧ n ≤ len ∧ K n.toNat
  | _ => False

def asliceLo (lo : Option AV) (hi : Nat) (K : Nat → Prop) : Prop :=
  match lo with
  | none => K 0
  | some (.i _ n) => 0 ≤ n ∧ n ≤ hi ∧ K n.toNat
  | _ => False

def aslice (P : Program) (t : TypeId) (x : AV) (lo hi : Option AV) (K : AV → Prop) : Prop :=
  match x, tyOf P t with
  | .ref (.sl a k st off len esz), .sl e _ =>
    e = esz ∧ 0 < esz ∧ asliceHi hi len fun h => asliceLo lo h fun l => K (.ref (.sl a k st (off + l * esz) (h - l) esz))
  | .ref (.s x), .str => asliceHi hi x.size fun h => asliceLo lo h fun l => K (.ref (.s (x.extract l h)))
  | _, _ => False

def alen (P : Program) (t : TypeId) (x : AV) (K : AV → Prop) : Prop :=
  match tyOf P t, x with
  | .sl _ _, .ref (.sl _ _ _ _ n _) => K (.i .i64 n)
  | .sl _ _, .ref .nils => K (.i .i64 0)
  | .sl _ _, .ref .sl0 => K (.i .i64 0)
  | .arr n _ _, _ => K (.i .i64 n)
  | .str, .ref (.s x) => K (.i .i64 x.size)
  | _, _ => False

/-- The cells of a slice, as one segment. -/
def subSg (g : Sg) (off n : Nat) : Sg :=
  match g with
  | .ints k _ xs => .ints k n ((xs.drop off).take n)
  | .bools _ xs => .bools n ((xs.drop off).take n)
  | .cells _ vs => .cells n ((vs.drop off).take n)

/-- The same where it is the whole segment. -/
def subSg' (g : Sg) (off n : Nat) : Sg := if off = 0 ∧ n = g.len then g else subSg g off n

def catSg (g h : Sg) (K : Sg → Prop) : Prop :=
  match g, h with
  | .ints k n xs, .ints k' m ys => k = k' ∧ K (.ints k (n + m) (xs ++ ys))
  | .bools n xs, .bools m ys => K (.bools (n + m) (xs ++ ys))
  | .cells n xs, .cells m ys => K (.cells (n + m) (xs ++ ys))
  | _, _ => False

/-- The cells that a slice names. -/
def slCells (m : Mem) (x : AV) (esz : Nat) (z : Zk) (K : Sg → Nat → List Id → Prop) : Prop :=
  match x with
  | .ref .nils => K (zeroArr 0 z) 0 []
  | .ref (.sl a k st off len e) =>
    match m.get a k with
    | .lv _ gs =>
      match seg? gs st with
      | some g => e = esz ∧ off + len * esz ≤ g.len ∧ K (subSg' g off (len * esz)) len [(a, k)]
      | none => False
    | .dead => False
  | _ => False

/-- What is struck when a slice is appended to. -/
def killed (m : Mem) (x : AV) (K : Ups → Prop) : Prop :=
  match x with
  | .ref .nils => K []
  | .ref (.sl a k _ _ _ _) => match m.get a k with | .lv true _ => K [((a, k), .dead)] | _ => False
  | _ => False

def isNil : AV → Prop
  | .ref .nils => True
  | _ => False

def notNil : AV → Prop
  | .ref .nils => False
  | _ => True

def aappend (P : Program) (t : TypeId) (m : Mem) (s x : AV) (K : AV → Ups → List Id → Prop) : Prop :=
  match tyOf P t, zeroEl P (elOf P t) with
  | .sl esz bytes, some z =>
    0 < esz ∧ 0 < bytes ∧ z.len = esz ∧ notNil x ∧
    slCells m s esz z fun g n rd => slCells m x esz z fun h n' rd' => (n + n') * bytes ≤ 140737488355328 ∧ (isNil s → 0 < n') ∧ killed m s fun ks =>
      catSg g h fun g2 => K (.ref (.sl m.next 0 0 0 (n + n') esz)) (ks ++ [((m.next, 0), .lv true [(0, g2)])]) (rd ++ rd')
  | _, _ => False

def amakeSlice (P : Program) (t : TypeId) (m : Mem) (n c : AV) (K : AV → Ups → List Id → Prop) : Prop :=
  match tyOf P t, zeroEl P (elOf P t), n, c with
  | .sl esz bytes, some z, .i .i64 n, .i .i64 c =>
    0 < esz ∧ 0 < bytes ∧ z.len = esz ∧ 0 ≤ n ∧ n = c ∧ c * bytes ≤ 140737488355328 ∧ K (.ref (.sl m.next 0 0 0 n.toNat esz)) [((m.next, 0), .lv true [(0, zeroArr n.toNat z)])] []
  | _, _, _, _ => False

end Go.Abs

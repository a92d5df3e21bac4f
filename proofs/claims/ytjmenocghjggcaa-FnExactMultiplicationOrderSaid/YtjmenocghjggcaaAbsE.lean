/-
The words of an abstract reading of Go code: values, segments of memory, and what one operation, one region and one body make of them. No proof in this file; the next one shows that the reading is sound.
-/
import Derived.WalkKit
import Derived.ChangeKeysEq
namespace Go.Abs
open Go
set_option linter.unusedVariables false
set_option linter.unusedSectionVars false
set_option linter.unusedSimpArgs false
set_option linter.defProp false

/-- What one cell holds, if it is no number and no bool. Memory is named by two numbers (a, k): a = 0 for what came in. -/
inductive Atom where
  | top
  | s (x : ByteArray)
  | ptr (a k st off : Nat)
  | nilp
  | sl (a k st off len esz : Nat)
  | nils
  | sl0
  | fn (f : FuncId) (caps : List (Nat × Nat × Nat × Nat))
  | nilf

/-- A row of cells of one kind, with its length. -/
inductive Sg where
  | ints (k : IntKind) (n : Nat) (xs : List Int)
  | bools (n : Nat) (xs : List Bool)
  | cells (n : Nat) (vs : List Atom)

def Sg.len : Sg → Nat
  | .ints _ n _ => n
  | .bools n _ => n
  | .cells n _ => n

/-- Segments, each with the place where it begins. -/
abbrev Segs := List (Nat × Sg)

inductive AV where
  | top
  | b (x : Bool)
  | i (k : IntKind) (n : Int)
  | ref (a : Atom)
  | agg (gs : Segs)
  | tup (vs : List AV)

inductive Blk where
  | dead
  | lv (rw : Bool) (gs : Segs)

abbrev Id := Nat × Nat

structure Mem where
  args : List Blk
  loc : List (Id × Blk)
  next : Nat

abbrev Env := List (Nat × AV)

def lk : Env → Nat → AV
  | [], _ => .top
  | (t, v) :: r, u => if t = u then v else lk r u

def assoc : List (Id × Blk) → Nat → Nat → Blk
  | [], _, _ => .dead
  | (p, b) :: r, a, k => if p.1 = a ∧ p.2 = k then b else assoc r a k

def Mem.get (m : Mem) (a k : Nat) : Blk := if a = 0 then m.args.getD k .dead else assoc m.loc a k

def Mem.put (m : Mem) (p : Id) (b : Blk) : Mem :=
  if p.1 = 0 then { m with args := m.args.set p.2 b } else { m with loc := (p, b) :: m.loc }

abbrev Ups := List (Id × Blk)

def Mem.upd (m : Mem) : Ups → Mem
  | [] => m
  | (p, b) :: r => (m.put p b).upd r

def Mem.tick (m : Mem) : Mem := { m with next := m.next + 1 }

/-! ### types -/

inductive Ty where
  | other
  | sc
  | bool
  | int (k : IntKind)
  | str
  | arr (n esz sz : Nat)
  | st (offs : List (Nat × Nat)) (sz : Nat)
  | sl (esz bytes : Nat)

def szOf (P : Program) (t : TypeId) : Nat := ((P.info? t).map (·.size)).getD 0
def bytesOf (P : Program) (t : TypeId) : Nat := ((P.info? t).map (·.bytes)).getD 0

def tyOf (P : Program) (t : TypeId) : Ty :=
  match P.underlying t with
  | some (.array n e) => .arr n (szOf P e) (szOf P t)
  | some (.struct fs) => .st (fs.toList.map fun f => (f.offset, szOf P f.type)) (szOf P t)
  | some (.slice e) => .sl (szOf P e) (bytesOf P e)
  | some .string => .str
  | some (.int k) => .int k
  | some .bool => .bool
  | some _ => .sc
  | none => .other

/-- The element type of a slice type. -/
def elOf (P : Program) (t : TypeId) : TypeId :=
  match P.underlying t with
  | some (.slice e) => e
  | _ => t

/-- The kinds of the segments of a variable. -/
inductive Lk where
  | ints (k : IntKind)
  | bools
  | cells
  deriving DecidableEq

def layOf (P : Program) : Nat → TypeId → List (Nat × Lk)
  | 0, _ => []
  | d + 1, t =>
    match P.underlying t with
    | some (.int k) => [(1, .ints k)]
    | some .bool => [(1, .bools)]
    | some (.array n e) =>
      match layOf P d e with
      | [(m, k)] => [(n * m, k)]
      | _ => []
    | some (.struct fs) => fs.toList.flatMap fun f => layOf P d f.type
    | some _ => [(1, .cells)]
    | none => []

def intsOf (k : IntKind) : List Value → Option (List Int)
  | [] => some []
  | .int k' n :: r => if k' = k then (intsOf k r).map (n :: ·) else none
  | _ => none
def boolsOf : List Value → Option (List Bool)
  | [] => some []
  | .bool x :: r => (boolsOf r).map (x :: ·)
  | _ => none
def atomOf : Value → Option Atom
  | .string s => some (.s s)
  | .pointer none => some .nilp
  | .slice none 0 0 => some .nils
  | .nilFunc => some .nilf
  | _ => none
def atomsOf : List Value → Option (List Atom)
  | [] => some []
  | v :: r => match atomOf v, atomsOf r with
    | some a, some l => some (a :: l)
    | _, _ => none

def segOf (n : Nat) (vs : List Value) : Lk → Option Sg
  | .ints k => (intsOf k vs).map (.ints k n)
  | .bools => (boolsOf vs).map (.bools n)
  | .cells => (atomsOf vs).map (.cells n)

def segsOf : Nat → List (Nat × Lk) → List Value → Option Segs
  | _, [], [] => some []
  | _, [], _ => none
  | s, (n, k) :: r, vs =>
    if (vs.take n).length = n then
      match segOf n (vs.take n) k, segsOf (s + n) r (vs.drop n) with
      | some g, some gs => some ((s, g) :: gs)
      | _, _ => none
    else none

/-- The zero value of a type, as segments. -/
def zeroOf (P : Program) (t : TypeId) : Option Segs :=
  match (P.info? t).bind (·.zero) with
  | some z => segsOf 0 (layOf P 6 t) z.cells.toList
  | none => none

/-- The zero of a slice's element: its kind and its number of cells. -/
inductive Zk where
  | ints (k : IntKind) (m : Nat)
  | bools (m : Nat)
  | cells (a : Atom)

def zeroEl (P : Program) (t : TypeId) : Option Zk :=
  match zeroOf P t with
  | some [(_, .ints k m xs)] => if xs.all (· == 0) then some (.ints k m) else none
  | some [(_, .bools m xs)] => if xs.all (!·) then some (.bools m) else none
  | some [(_, .cells 1 [a])] => some (.cells a)
  | _ => none

def Zk.len : Zk → Nat
  | .ints _ m => m
  | .bools m => m
  | .cells _ => 1

def zeroArr (n : Nat) : Zk → Sg
  | .ints k m => .ints k (n * m) (List.replicate (n * m) 0)
  | .bools m => .bools (n * m) (List.replicate (n * m) false)
  | .cells a => .cells n (List.replicate n a)

/-! ### reading and writing segments -/

def seg? : Segs → Nat → Option Sg
  | [], _ => none
  | (s, g) :: r, st => if s = st then some g else seg? r st

def updSeg : Segs → Nat → Sg → Segs
  | [], _, _ => []
  | (s, g) :: r, st, g' => if s = st then (s, g') :: r else (s, g) :: updSeg r st g'

/-- A single cell. -/
def ldSc (gs : Segs) (st off : Nat) (K : AV → Prop) : Prop :=
  match seg? gs st with
  | some (.ints k n xs) => off < n ∧ K (.i k (xs.getD off 0))
  | some (.bools n xs) => off < n ∧ K (.b (xs.getD off false))
  | some (.cells n vs) => off < n ∧ K (.ref (vs.getD off .top))
  | none => False

/-- The segments from a place on. -/
def dropTo : Segs → Nat → Segs
  | [], _ => []
  | (s, g) :: r, st => if s = st then (s, g) :: r else dropTo r st

/-- As many segments as make 'sz' cells, their places counted from 'st'. -/
def takeSz (st : Nat) : Segs → Nat → Option Segs
  | _, 0 => some []
  | [], _ + 1 => none
  | (s, g) :: r, n + 1 => if g.len ≤ n + 1 ∧ 0 < g.len then (takeSz st r (n + 1 - g.len)).map ((s - st, g) :: ·) else none

def ldMulti (gs : Segs) (st off sz : Nat) (K : AV → Prop) : Prop :=
  match takeSz (st + off) (dropTo gs (st + off)) sz with
  | some hs => K (.agg hs)
  | none => False

def ldAg (gs : Segs) (st off sz : Nat) (K : AV → Prop) : Prop :=
  match seg? gs st with
  | some (.ints k n xs) =>
    if n = sz then off = 0 ∧ K (.agg [(0, .ints k n xs)])
    else if sz < n then off + sz ≤ n ∧ K (.agg [(0, .ints k sz ((xs.drop off).take sz))])
    else ldMulti gs st off sz K
  | some (.bools n xs) =>
    if n = sz then off = 0 ∧ K (.agg [(0, .bools n xs)])
    else if sz < n then off + sz ≤ n ∧ K (.agg [(0, .bools sz ((xs.drop off).take sz))])
    else ldMulti gs st off sz K
  | some (.cells _ _) => ldMulti gs st off sz K
  | none => False

def spl {α : Type} (xs : List α) (off : Nat) (ys : List α) : List α :=
  match ys with
  | [y] => xs.set off y
  | ys => xs.take off ++ ys ++ xs.drop (off + ys.length)

/-- One segment stored into one. -/
def splice (g : Sg) (off : Nat) (g' : Sg) (K : Sg → Prop) : Prop :=
  match g, g' with
  | .ints k n xs, .ints k' m ys => k = k' ∧ if m = n then off = 0 ∧ K (.ints k n ys) else off + m ≤ n ∧ K (.ints k n (spl xs off ys))
  | .bools n xs, .bools m ys => if m = n then off = 0 ∧ K (.bools n ys) else off + m ≤ n ∧ K (.bools n (spl xs off ys))
  | .cells n xs, .cells m ys => if m = n then off = 0 ∧ K (.cells n ys) else off + m ≤ n ∧ K (.cells n (spl xs off ys))
  | _, _ => False

def stMulti (gs : Segs) (st : Nat) : Segs → (Segs → Prop) → Prop
  | [], K => K gs
  | (s, g') :: r, K =>
    match seg? gs (st + s) with
    | some g => g.len = g'.len ∧ splice g 0 g' fun g2 => stMulti (updSeg gs (st + s) g2) st r K
    | none => False

def stSegs (gs : Segs) (st off : Nat) (vs : Segs) (K : Segs → Prop) : Prop :=
  match vs with
  | [(_, g')] =>
    match seg? gs st with
    | some g => splice g off g' fun g2 => K (updSeg gs st g2)
    | none => False
  | vs => off = 0 ∧ (seg? gs st).isSome = true ∧ stMulti gs st vs K

def segsOfAV : AV → Option Segs
  | .b x => some [(0, .bools 1 [x])]
  | .i k n => some [(0, .ints k 1 [n])]
  | .ref a => some [(0, .cells 1 [a])]
  | .agg gs => some gs
  | _ => none

def segsLen : Segs → Nat
  | [] => 0
  | (_, g) :: r => g.len + segsLen r

/-! ### operands -/

def ofConst : Value → AV
  | .int k n => .i k n
  | .bool x => .b x
  | .string s => .ref (.s s)
  | .pointer none => .ref .nilp
  | .slice none 0 0 => .ref .nils
  | .nilFunc => .ref .nilf
  | _ => .top

def aev (env : Env) : Operand → AV
  | .tmp t => lk env t
  | .const v => ofConst v
  | .func f => .ref (.fn f [])
  | .global _ => .top

/-! ### renaming -/

abbrev Ren := Nat → Nat → Option Id

def renCaps (σ : Ren) : List (Nat × Nat × Nat × Nat) → Option (List (Nat × Nat × Nat × Nat))
  | [] => some []
  | (a, k, st, off) :: r =>
    match σ a k, renCaps σ r with
    | some p, some l => some ((p.1, p.2, st, off) :: l)
    | _, _ => none

def renAt (σ : Ren) : Atom → Atom
  | .ptr a k st off => match σ a k with | some p => .ptr p.1 p.2 st off | none => .top
  | .sl a k st off len esz => match σ a k with | some p => .sl p.1 p.2 st off len esz | none => .top
  | .fn f caps => match renCaps σ caps with | some l => .fn f l | none => .top
  | x => x

def renSg (σ : Ren) : Sg → Sg
  | .cells n vs => .cells n (vs.map (renAt σ))
  | g => g

def renSegs (σ : Ren) : Segs → Segs
  | [] => []
  | (s, g) :: r => (s, renSg σ g) :: renSegs σ r

mutual
def renV (σ : Ren) : AV → AV
  | .ref a => .ref (renAt σ a)
  | .agg gs => .agg (renSegs σ gs)
  | .tup vs => .tup (renVs σ vs)
  | .top => .top
  | .b x => .b x
  | .i k n => .i k n
def renVs (σ : Ren) : List AV → List AV
  | [] => []
  | v :: r => renV σ v :: renVs σ r
end

def renBlk (σ : Ren) : Blk → Blk
  | .dead => .dead
  | .lv rw gs => .lv rw (renSegs σ gs)

/-! ### calls -/

def idx (F : List Id) (a k : Nat) : Option Nat :=
  match F with
  | [] => none
  | p :: r => if p.1 = a ∧ p.2 = k then some 0 else (idx r a k).map (· + 1)

def renIn (F : List Id) : Ren := fun a k => (idx F a k).map fun j => (0, j)

def renOut (nid : Nat) (F : List Id) : Ren := fun a k =>
  if a = 0 then F[k]? else if a = 1 then some (nid, k) else none

def argBlks (m : Mem) (F : List Id) : List Blk := F.map fun p => renBlk (renIn F) (m.get p.1 p.2)

def zipUps (σ : Ren) : List Id → List Blk → Ups
  | p :: F, b :: r => (p, renBlk σ b) :: zipUps σ F r
  | _, _ => []

def newUps (σ : Ren) (nid : Nat) : Nat → List Blk → Ups
  | _, [] => []
  | j, b :: r => ((nid, j), renBlk σ b) :: newUps σ nid (j + 1) r

def idsAt : Atom → List Id
  | .ptr a k _ _ => [(a, k)]
  | .sl a k _ _ _ _ => [(a, k)]
  | .fn _ caps => caps.map fun c => (c.1, c.2.1)
  | _ => []
def idsSg : Sg → List Id
  | .cells _ vs => vs.flatMap idsAt
  | _ => []
def idsSegs : Segs → List Id
  | [] => []
  | (_, g) :: r => idsSg g ++ idsSegs r
def idsV : AV → List Id
  | .ref a => idsAt a
  | .agg gs => idsSegs gs
  | _ => []

def foot : Nat → Mem → List Id → List Id → List Id
  | 0, _, _, acc => acc
  | _ + 1, _, [], acc => acc
  | n + 1, m, p :: todo, acc =>
    if acc.contains p then foot n m todo acc
    else foot n m ((match m.get p.1 p.2 with | .lv _ gs => idsSegs gs | .dead => []) ++ todo) (acc ++ [p])

/-! ### values of operations -/

def intBin (op : BinOp) (k : IntKind) (x y : Int) (K : AV → Prop) : Prop :=
  match op with
  | .add => K (.i k (k.wrap (x + y)))
  | .sub => K (.i k (k.wrap (x - y)))
  | .mul => K (.i k (k.wrap (x * y)))
  | .quo => y ≠ 0 ∧ K (.i k (k.wrap (x.tdiv y)))
  | .rem => y ≠ 0 ∧ K (.i k (x.tmod y))
  | .and => K (.i k (k.wrap (BitVec.ofInt k.bits x &&& BitVec.ofInt k.bits y).toNat))
  | .or => K (.i k (k.wrap (BitVec.ofInt k.bits x ||| BitVec.ofInt k.bits y).toNat))
  | .xor => K (.i k (k.wrap (BitVec.ofInt k.bits x ^^^ BitVec.ofInt k.bits y).toNat))
  | .andNot => K (.i k (k.wrap (BitVec.ofInt k.bits x &&& ~~~ BitVec.ofInt k.bits y).toNat))
  | .eql => K (.b (decide (x = y)))
  | .neq => K (.b (!decide (x = y)))
  | .lss => K (.b (decide (x < y)))
  | .leq => K (.b (decide (x ≤ y)))
  | .gtr => K (.b (decide (x > y)))
  | .geq => K (.b (decide (x ≥ y)))
  | _ => False

def intShift (op : BinOp) (k : IntKind) (x y : Int) (K : AV → Prop) : Prop :=
  match op with
  | .shl => 0 ≤ y ∧ K (.i k (k.wrap (x * 2 ^ (min y.toNat k.bits))))
  | .shr => 0 ≤ y ∧ K (.i k (x.fdiv (2 ^ (min y.toNat k.bits))))
  | _ => False

def isShift : BinOp → Bool
  | .shl | .shr => true
  | _ => false

/-! ### equality of structs and arrays -/

inductive Kd where
  | int (k : IntKind)
  | bool
  deriving DecidableEq

def repl (l : List Kd) : Nat → List Kd
  | 0 => []
  | n + 1 => l ++ repl l n

def kdsF (P : Program) (f : TypeId → Option (List Kd)) : Nat → List Field → Option (List Kd)
  | _, [] => some []
  | off, g :: r =>
    match f g.type with
    | some l => if g.name ≠ "_" ∧ g.offset = off ∧ (P.info? g.type).isSome = true ∧ szOf P g.type = l.length then (kdsF P f (off + l.length) r).map (l ++ ·) else none
    | none => none

/-- The kinds of the cells of a type that is built of integers and truths alone. -/
def kds (P : Program) : Nat → TypeId → Option (List Kd)
  | 0, _ => none
  | d + 1, t =>
    match P.underlying t with
    | some (.int k) => some [.int k]
    | some .bool => some [.bool]
    | some (.array n e) =>
      match kds P d e with
      | some l => if (P.info? e).isSome = true ∧ szOf P e = l.length then some (repl l n) else none
      | none => none
    | some (.struct fs) => if P.stoodInHeld t = true then none else kdsF P (kds P d) 0 fs.toList
    | _ => none

def kdsSg : List (Kd × Nat) → List Kd
  | [] => []
  | (k, n) :: r => List.replicate n k ++ kdsSg r

def shapes : Segs → List (Kd × Nat)
  | [] => []
  | (_, .ints k n _) :: r => (.int k, n) :: shapes r
  | (_, .bools n _) :: r => (.bool, n) :: shapes r
  | (_, .cells _ _) :: r => (.bool, 0) :: shapes r

def eqTy (P : Program) (t : TypeId) (l : List (Kd × Nat)) : Bool :=
  decide (kds P 6 t = some (kdsSg l)) && !P.eqGuardType P.depth t && (match P.underlying t with | some (.array ..) | some (.struct ..) => true | _ => false)

def eqSg : Sg → Sg → Option Bool
  | .ints k n xs, .ints k' m ys => if k = k' ∧ n = m then some (decide (xs = ys)) else none
  | .bools n xs, .bools m ys => if n = m then some (decide (xs = ys)) else none
  | _, _ => none

def eqSegs : Segs → Segs → Option Bool
  | [], [] => some true
  | (_, g) :: r, (_, h) :: s =>
    match eqSg g h with
    | some x => match eqSegs r s with
      | some y => some (x && y)
      | none => none
    | none => none
  | _, _ => none

def abin (P : Program) (op : BinOp) (t : TypeId) (x y : AV) (K : AV → Prop) : Prop :=
  match x, y with
  | .i k a, .i k' b => if isShift op then intShift op k a b K else k = k' ∧ intBin op k a b K
  | .b a, .b b =>
    match op with
    | .eql => tyOf P t = .bool ∧ K (.b (a == b))
    | .neq => tyOf P t = .bool ∧ K (.b (!(a == b)))
    | _ => False
  | .agg gs, .agg hs =>
    match op, eqSegs gs hs with
    | .eql, some r => eqTy P t (shapes gs) = true ∧ K (.b r)
    | .neq, some r => eqTy P t (shapes gs) = true ∧ K (.b (!r))
    | _, _ => False
  | _, _ => False

def aun (op : UnOp) (x : AV) (K : AV → Prop) : Prop :=
  match op, x with
  | .not, .b x => K (.b !x)
  | .neg, .i k n => K (.i k (k.wrap (0 - n)))
  | _, _ => False

def pickV (g : Bool) (x y : AV) : AV :=
  match x, y with
  | .b u, .b v => .b (bif g then u else v)
  | x, y => bif g then x else y

def aload (P : Program) (t : TypeId) (env : Env) (m : Mem) (x : Operand) (K : AV → Ups → List Id → Prop) : Prop :=
  match aev env x with
  | .ref (.ptr a k st off) =>
    match m.get a k with
    | .lv _ gs =>
      match tyOf P t with
      | .arr _ _ sz => 0 < sz ∧ ldAg gs st off sz fun v => K v [] [(a, k)]
      | .st _ sz => 0 < sz ∧ ldAg gs st off sz fun v => K v [] [(a, k)]
      | .other => False
      | _ => ldSc gs st off fun v => K v [] [(a, k)]
    | .dead => False
  | _ => False

def astore (P : Program) (t : TypeId) (env : Env) (m : Mem) (x v : Operand) (K : AV → Ups → List Id → Prop) : Prop :=
  match aev env x, segsOfAV (aev env v) with
  | .ref (.ptr a k st off), some vs =>
    match m.get a k with
    | .lv true gs => segsLen vs = szOf P t ∧ (P.info? t).isSome = true ∧ stSegs gs st off vs fun gs' => K .top [((a, k), .lv true gs')] []
    | _ => False
  | _, _ => False

def aparts (P : Program) (pl : Nat → Option (Nat × Nat × Nat)) (env : Env) : List (Nat × Operand) → Segs → (Segs → Prop) → Prop
  | [], gs, K => K gs
  | (j, x) :: r, gs, K =>
    match pl j, segsOfAV (aev env x) with
    | some (st, off, sz), some vs => segsLen vs = sz ∧ stSegs gs st off vs fun gs' => aparts P pl env r gs' K
    | _, _ => False

def abuild (P : Program) (t : TypeId) (env : Env) (parts : List (Nat × Operand)) (K : Segs → Prop) : Prop :=
  match zeroOf P t, tyOf P t with
  | some gs, .st offs _ => offs.all (fun p => 0 < p.2) = true ∧ aparts P (fun j => (offs[j]?).map fun p => (p.1, 0, p.2)) env parts gs K
  | some gs, .arr _ esz _ => 0 < esz ∧ aparts P (fun j => some (0, j * esz, esz)) env parts gs K
  | _, _ => False

/-- What a slice of elements of more than one kind is made of: none or one. -/
def mixZero (P : Program) (t : TypeId) : Nat → Option Segs
  | 0 => some []
  | 1 => zeroOf P (elOf P t)
  | _ + 2 => none

def abuildSlice (P : Program) (t : TypeId) (len : Nat) (env : Env) (parts : List (Nat × Operand)) (K : Segs → Nat → Prop) : Prop :=
  match tyOf P t, zeroEl P (elOf P t) with
  | .sl esz _, some z => 0 < esz ∧ z.len = esz ∧ len * esz ≤ 16777216 ∧ aparts P (fun j => some (0, j * esz, esz)) env parts [(0, zeroArr len z)] fun gs => K gs esz
  | .sl esz _, none =>
    match mixZero P t len with
    | some gs => 0 < esz ∧ segsLen gs = len * esz ∧ len * esz ≤ 16777216 ∧ aparts P (fun j => some (0, j * esz, esz)) env parts gs fun gs => K gs esz
    | none => False
  | _, _ => False

def capsOf (env : Env) : List Operand → Option (List (Nat × Nat × Nat × Nat))
  | [] => some []
  | x :: r =>
    match aev env x, capsOf env r with
    | .ref (.ptr a k st off), some l => some ((a, k, st, off) :: l)
    | _, _ => none

def aindexAddr (P : Program) (t : TypeId) (x i : AV) (K : AV → Prop) : Prop :=
  match x, i with
  | .ref (.ptr a k st off), .i _ n =>
    match tyOf P t with
    | .arr len esz _ => 0 < esz ∧ 0 ≤ n ∧ n < len ∧ K (.ref (.ptr a k st (off + n.toNat * esz)))
    | _ => False
  | .ref (.sl a k st off len esz), .i _ n =>
    match tyOf P t with
    | .sl e _ => e = esz ∧ 0 < esz ∧ 0 ≤ n ∧ n < len ∧ K (.ref (.ptr a k st (off + n.toNat * esz)))
    | _ => False
  | _, _ => False

def arrEl (P : Program) (t : TypeId) : TypeId :=
  match P.underlying t with
  | some (.array _ e) => e
  | _ => t

def aindex (P : Program) (t : TypeId) (x i : AV) (K : AV → Prop) : Prop :=
  match x, i with
  | .agg gs, .i _ n =>
    match tyOf P t with
    | .arr len esz _ => 0 ≤ n ∧ n < len ∧ 0 < esz ∧
      match tyOf P (arrEl P t) with
      | .arr _ _ _ => ldAg gs 0 (n.toNat * esz) esz K
      | .st _ _ => ldAg gs 0 (n.toNat * esz) esz K
      | .other => False
      | _ => esz = 1 ∧ ldSc gs 0 n.toNat K
    | _ => False
  | .ref (.s x), .i _ n =>
    match tyOf P t with
    | .str => 0 ≤ n ∧ n < x.size ∧ K (.i .u8 (x.data.getD n.toNat 0).toNat)
    | _ => False
  | _, _ => False

def afieldAddr (P : Program) (t : TypeId) (x : AV) (f : Nat) (K : AV → Prop) : Prop :=
  match x, tyOf P t with
  | .ref (.ptr a k st off), .st offs _ =>
    match offs[f]? with
    | some p => 0 < p.2 ∧ K (.ref (.ptr a k (st + off + p.1) 0))
    | none => False
  | _, _ => False

def isInt (P : Program) (t : TypeId) : Bool := match tyOf P t with | .int _ => true | _ => false

def aconvert (P : Program) (src dst : TypeId) (x : AV) (K : AV → Prop) : Prop :=
  match tyOf P src, tyOf P dst, x with
  | .int _, .int k, .i _ n => K (.i k (k.wrap n))
  | _, _, _ => False

def asliceHi (hi : Option AV) (len : Nat) (K : Nat → Prop) : Prop :=
  match hi with
  | none => K len
  | some (.i _ n) => 0 ≤ n ∧ n ≤ len ∧ K n.toNat
  | _ => False

def asliceLo (lo : Option AV) (hi : Nat) (K : Nat → Prop) : Prop :=
  match lo with
  | none => K 0
  | some (.i _ n) => 0 ≤ n ∧ n ≤ hi ∧ K n.toNat
  | _ => False

def aslice (P : Program) (t : TypeId) (x : AV) (lo hi : Option AV) (K : AV → Prop) : Prop :=
  match x, tyOf P t with
  | .ref (.sl a k st off len esz), .sl e _ =>
    e = esz ∧ 0 < esz ∧ asliceHi hi len fun h => asliceLo lo h fun l => K (.ref (.sl a k st (off + l * esz) (h - l) esz))
  | .ref (.s x), .str => asliceHi hi x.size fun h => asliceLo lo h fun l => K (.ref (.s (x.extract l h)))
  | _, _ => False

def alen (P : Program) (t : TypeId) (x : AV) (K : AV → Prop) : Prop :=
  match tyOf P t, x with
  | .sl _ _, .ref (.sl _ _ _ _ n _) => K (.i .i64 n)
  | .sl _ _, .ref .nils => K (.i .i64 0)
  | .sl _ _, .ref .sl0 => K (.i .i64 0)
  | .arr n _ _, _ => K (.i .i64 n)
  | .str, .ref (.s x) => K (.i .i64 x.size)
  | _, _ => False

/-- The cells of a slice, as one segment. -/
def subSg (g : Sg) (off n : Nat) : Sg :=
  match g with
  | .ints k _ xs => .ints k n ((xs.drop off).take n)
  | .bools _ xs => .bools n ((xs.drop off).take n)
  | .cells _ vs => .cells n ((vs.drop off).take n)

/-- The same where it is the whole segment. -/
def subSg' (g : Sg) (off n : Nat) : Sg := if off = 0 ∧ n = g.len then g else subSg g off n

def catSg (g h : Sg) (K : Sg → Prop) : Prop :=
  match g, h with
  | .ints k n xs, .ints k' m ys => k = k' ∧ K (.ints k (n + m) (xs ++ ys))
  | .bools n xs, .bools m ys => K (.bools (n + m) (xs ++ ys))
  | .cells n xs, .cells m ys => K (.cells (n + m) (xs ++ ys))
  | _, _ => False

/-- The cells that a slice names. -/
def slCells (m : Mem) (x : AV) (esz : Nat) (z : Zk) (K : Sg → Nat → List Id → Prop) : Prop :=
  match x with
  | .ref .nils => K (zeroArr 0 z) 0 []
  | .ref (.sl a k st off len e) =>
    match m.get a k with
    | .lv _ gs =>
      match seg? gs st with
      | some g => e = esz ∧ off + len * esz ≤ g.len ∧ K (subSg' g off (len * esz)) len [(a, k)]
      | none => False
    | .dead => False
  | _ => False

/-- What is struck when a slice is appended to. -/
def killed (m : Mem) (x : AV) (K : Ups → Prop) : Prop :=
  match x with
  | .ref .nils => K []
  | .ref (.sl a k _ _ _ _) => match m.get a k with | .lv true _ => K [((a, k), .dead)] | _ => False
  | _ => False

def isNil : AV → Prop
  | .ref .nils => True
  | _ => False

def notNil : AV → Prop
  | .ref .nils => False
  | _ => True

/-- The segments of a slice that is all of its block. -/
def slSegs (m : Mem) (x : AV) (esz : Nat) (K : Segs → Nat → List Id → Prop) : Prop :=
  match x with
  | .ref (.sl a k st off len e) =>
    match m.get a k with
    | .lv _ gs => st = 0 ∧ off = 0 ∧ e = esz ∧ segsLen gs = len * esz ∧ K gs len [(a, k)]
    | .dead => False
  | _ => False

def shiftSg (d : Nat) : Segs → Segs
  | [] => []
  | (s, g) :: r => (d + s, g) :: shiftSg d r

def aappend (P : Program) (t : TypeId) (m : Mem) (s x : AV) (K : AV → Ups → List Id → Prop) : Prop :=
  match tyOf P t, zeroEl P (elOf P t) with
  | .sl esz bytes, some z =>
    0 < esz ∧ 0 < bytes ∧ z.len = esz ∧ notNil x ∧
    slCells m s esz z fun g n rd => slCells m x esz z fun h n' rd' => (n + n') * bytes ≤ 140737488355328 ∧ (isNil s → 0 < n') ∧ killed m s fun ks =>
      catSg g h fun g2 => K (.ref (.sl m.next 0 0 0 (n + n') esz)) (ks ++ [((m.next, 0), .lv true [(0, g2)])]) (rd ++ rd')
  | .sl esz bytes, none =>
    match mixZero P t 1 with
    | some z => 0 < esz ∧ 0 < bytes ∧ segsLen z = esz ∧
      slSegs m s esz fun g n rd => slSegs m x esz fun h n' rd' => (n + n') * bytes ≤ 140737488355328 ∧ killed m s fun ks =>
        K (.ref (.sl m.next 0 0 0 (n + n') esz)) (ks ++ [((m.next, 0), .lv true (g ++ shiftSg (n * esz) h))]) (rd ++ rd')
    | none => False
  | _, _ => False

/-- An array's address, sliced. -/
def asliceP (P : Program) (t : TypeId) (m : Mem) (a k st off : Nat) (lo hi : Option AV) (K : AV → Prop) : Prop :=
  match tyOf P t, m.get a k with
  | .arr n esz _, .lv _ gs => 0 < esz ∧ st + off + n * esz ≤ segsLen gs ∧ asliceHi hi n fun h => asliceLo lo h fun l => K (.ref (.sl a k st (off + l * esz) (h - l) esz))
  | _, _ => False

def asliceV (P : Program) (t : TypeId) (m : Mem) (x : AV) (lo hi : Option AV) (K : AV → Ups → List Id → Prop) : Prop :=
  match x with
  | .ref (.ptr a k st off) => asliceP P t m a k st off lo hi fun v => K v [] [(a, k)]
  | x => aslice P t x lo hi fun v => K v [] []

/-- copy, into a slice of cells that holds more than none. -/
def acopy (P : Program) (t : TypeId) (m : Mem) (x y : AV) (K : AV → Ups → List Id → Prop) : Prop :=
  match tyOf P t, x with
  | .sl esz _, .ref (.sl a k st off n e) =>
    esz = 1 ∧ e = 1 ∧ slCells m y 1 (.bools 1) fun g n' rd => 0 < min n' n ∧
      match m.get a k with
      | .lv true gs => stSegs gs st off [(0, subSg' g 0 (min n' n))] fun gs2 => K (.i .i64 (min n' n : Nat)) [((a, k), .lv true gs2)] rd
      | _ => False
  | _, _ => False

def amakeSlice (P : Program) (t : TypeId) (m : Mem) (n c : AV) (K : AV → Ups → List Id → Prop) : Prop :=
  match tyOf P t, zeroEl P (elOf P t), n, c with
  | .sl esz bytes, some z, .i .i64 n, .i .i64 c =>
    0 < esz ∧ 0 < bytes ∧ z.len = esz ∧ 0 ≤ n ∧ n = c ∧ c * bytes ≤ 140737488355328 ∧ K (.ref (.sl m.next 0 0 0 n.toNat esz)) [((m.next, 0), .lv true [(0, zeroArr n.toNat z)])] []
  | _, _, _, _ => False

end Go.Abs

/-
How the abstract values read as values of the model, what a contract of a function says, and the walk of a body in these words. No proof here.
-/
namespace Go.Abs
open Go
set_option linter.unusedVariables false
set_option linter.unusedSectionVars false
set_option linter.unusedSimpArgs false
set_option linter.defProp false

/-- Where a block of the abstract memory lies: the block, the first cell, how many cells the block has. -/
abbrev Rho := Nat → Nat → Option (Nat × Nat × Nat)

def RelCaps (ρ : Rho) : List (Nat × Nat × Nat × Nat) → List Value → Prop
  | [], l => l = []
  | (a, k, st, off) :: r, l => ∃ p l', ρ a k = some p ∧ l = .pointer (some ⟨p.1, p.2.1 + st + off, none⟩) :: l' ∧ RelCaps ρ r l'

def RelAt (ρ : Rho) : Atom → Value → Prop
  | .top, v => v.oneCell' = true
  | .s x, v => v = .string x
  | .ptr a k st off, v => ∃ p, ρ a k = some p ∧ v = .pointer (some ⟨p.1, p.2.1 + st + off, none⟩)
  | .nilp, v => v = .pointer none
  | .sl a k st off len esz, v => ∃ p cap, ρ a k = some p ∧ len ≤ cap ∧
      ((v = .slice (some ⟨p.1, p.2.1 + st + off, none⟩) len cap ∧ p.2.1 + st + off + cap * esz ≤ p.2.2) ∨ (len = 0 ∧ ∃ ad, v = .slice (some ad) 0 0))
  | .nils, v => v = .slice none 0 0
  | .sl0, v => ∃ a cap, v = .slice a 0 cap
  | .fn f caps, v => ∃ cs : List Value, v = .func (.func f) #[] cs.toArray ∧ RelCaps ρ caps cs
  | .nilf, v => v = .nilFunc

def RelAts (ρ : Rho) : List Atom → List Value → Prop
  | [], l => l = []
  | a :: r, l => ∃ v l', l = v :: l' ∧ RelAt ρ a v ∧ RelAts ρ r l'

def RelSg (ρ : Rho) : Sg → List Value → Prop
  | .ints k n xs, l => xs.length = n ∧ l = xs.map (Value.int k)
  | .bools n xs, l => xs.length = n ∧ l = xs.map Value.bool
  | .cells n vs, l => vs.length = n ∧ RelAts ρ vs l

def RelSegs (ρ : Rho) : Nat → Segs → List Value → Prop
  | _, [], l => l = []
  | s, (st, g) :: r, l => st = s ∧ ∃ l1 l2, l = l1 ++ l2 ∧ RelSg ρ g l1 ∧ RelSegs ρ (s + g.len) r l2

mutual
def RelV (ρ : Rho) : AV → Value → Prop
  | .top, _ => True
  | .b x, v => v = .bool x
  | .i k n, v => v = .int k n
  | .ref a, v => RelAt ρ a v
  | .agg gs, v => ∃ cs : List Value, v = .agg cs.toArray ∧ RelSegs ρ 0 gs cs
  | .tup vs, v => ∃ l : List Value, v = .tuple l.toArray ∧ RelVs ρ vs l
def RelVs (ρ : Rho) : List AV → List Value → Prop
  | [], l => l = []
  | a :: r, l => ∃ v l', l = v :: l' ∧ RelV ρ a v ∧ RelVs ρ r l'
end

/-- A block of the model holds these segments. -/
def Holds (ρ : Rho) (w : World) (p : Nat × Nat × Nat) (gs : Segs) (fz : Nat × Nat) : Prop :=
  ∃ arr T pre l post, w.heap[p.1]? = some (.cells arr T fz) ∧ arr.toList = pre ++ l ++ post ∧ pre.length = p.2.1 ∧ arr.size = p.2.2 ∧ RelSegs ρ 0 gs l

/-- 'own': the blocks that may be written. -/
structure MemRel (ρ : Rho) (own : Nat → Prop) (get : Nat → Nat → Blk) (w : World) : Prop where
  holds : ∀ a k rw gs, get a k = .lv rw gs → ∃ p fz, ρ a k = some p ∧ Holds ρ w p gs fz ∧ (rw = true → fz = (0, 0) ∧ own p.1) ∧ (rw = false → ¬ own p.1)
  apart : ∀ a k a' k' gs gs' p p', get a k = .lv true gs → get a' k' = .lv true gs' → ρ a k = some p → ρ a' k' = some p' → p.1 = p'.1 → a = a' ∧ k = k'
  there : ∀ a k p, ρ a k = some p → ∃ arr T fz, w.heap[p.1]? = some (.cells arr T fz) ∧ arr.size = p.2.2
  rws : ∀ a k rw gs, a ≠ 0 → get a k = .lv rw gs → rw = true

structure Kept (own : Nat → Prop) (w w' : World) : Prop where
  grows : w.heap.size ≤ w'.heap.size
  same : ∀ b, b < w.heap.size → ¬ own b → w'.heap[b]? = w.heap[b]?
  sizes : ∀ (b : Nat) (arr : Array Value) (T : TypeId) (fz : Nat × Nat), w.heap[b]? = some (.cells arr T fz) → ∃ (arr' : Array Value) (T' : TypeId) (fz' : Nat × Nat), w'.heap[b]? = some (.cells arr' T' fz') ∧ arr'.size = arr.size
  os : w'.os = w.os
  out : w'.output = w.output
  frz : ∀ a, w'.frozen? a = w.frozen? a

def getArgs (ms : List Blk) : Nat → Nat → Blk := fun a k => if a = 0 then ms.getD k .dead else .dead
def getOut (as ns : List Blk) : Nat → Nat → Blk := fun a k => if a = 0 then as.getD k .dead else if a = 1 then ns.getD k .dead else .dead

def Okf (P : Program) (f : FuncId) : Prop := ∃ fn c, P.funcs[f]? = some fn ∧ fn.body = some c ∧ (fn.name == "runtime.NumGoroutine") = false

/-- WHAT A CONTRACT SAYS: called with values that read as 'vs' over the memory 'ms', the function returns; its result, the memory that came in and the memory that is new read as R says; nothing else has changed. -/
def ACalls (P : Program) (f : FuncId) (vs : List AV) (ms : List Blk) (R : AV → List Blk → List Blk → Prop) : Prop :=
  Okf P f ∧ ∀ (ρ : Rho) (own : Nat → Prop) (w : World) (vals : List Value),
    (∀ a k, a ≠ 0 → ρ a k = none) → (∀ b, own b → b < w.heap.size) → MemRel ρ own (getArgs ms) w → RelVs ρ vs vals →
    Calls P f vals.toArray w fun e w' => ∃ r as ns val ρ', e = .returned val ∧ R r as ns ∧ as.length = ms.length ∧ RelV ρ' r val ∧
      MemRel ρ' (fun b => own b ∨ w.heap.size ≤ b) (getOut as ns) w' ∧ (∀ k, ρ' 0 k = ρ 0 k) ∧ (∀ a k, 2 ≤ a → ρ' a k = none) ∧ Kept own w w'

def capArgs (caps : List (Nat × Nat × Nat × Nat)) : List AV := caps.map fun c => .ref (.ptr c.1 c.2.1 c.2.2.1 c.2.2.2)

/-- A call with the memory that its arguments lead to (F). -/
def CallsF (P : Program) (f : FuncId) (vs : List AV) (m : Mem) (F : List Id) (K : AV → Ups → Prop) : Prop :=
  F.Nodup ∧ (∀ p ∈ F, (m.get p.1 p.2) ≠ .dead) ∧
    ACalls P f (renVs (renIn F) vs) (argBlks m F) fun r as ns =>
      K (renV (renOut m.next F) r) (zipUps (renOut m.next F) F as ++ newUps (renOut m.next F) m.next 0 ns)

def CallsVia (P : Program) (f : FuncId) (vs : List AV) (m : Mem) (K : AV → Ups → List Id → Prop) : Prop :=
  ∃ F : List Id, CallsF P f vs m F fun v ups => K v ups F

def acallee (env : Env) (x : Operand) (vs : List AV) (K : FuncId → List AV → Prop) : Prop :=
  match aev env x with
  | .ref (.fn f caps) => K f (vs ++ capArgs caps)
  | _ => False

def abuiltin (P : Program) (b : Builtin) (ts : List TypeId) (m : Mem) (vs : List AV) (K : AV → Ups → List Id → Prop) : Prop :=
  match b, ts, vs with
  | .len, [t], [x] => alen P t x fun v => K v [] []
  | .append, [t, t'], [s, x] => t = t' ∧ aappend P t m s x K
  | .max, [_, _], [.i k x, .i k' y] => k = k' ∧ K (.i k (max x y)) [] []
  | .min, [_, _], [.i k x, .i k' y] => k = k' ∧ K (.i k (min x y)) [] []
  | .copy, [t, _], [s, x] => acopy P t m s x K
  | _, _, _ => False

/-- One operation: its value, the blocks that it writes or makes (new ones under the name 'm.next'), and those that it reads. -/
def aop (P : Program) (op : Op) (env : Env) (m : Mem) (K : AV → Ups → List Id → Prop) : Prop :=
  match op with
  | .move x => K (aev env x) [] []
  | .assign x => K (aev env x) [] []
  | .pick c a b => match aev env c with | .b g => K (pickV g (aev env a) (aev env b)) [] [] | _ => False
  | .alloc t => match zeroOf P t with | some gs => K (.ref (.ptr m.next 0 0 0)) [((m.next, 0), .lv true gs)] [] | none => False
  | .box _ x => match segsOfAV (aev env x) with | some gs => K (.ref (.ptr m.next 0 0 0)) [((m.next, 0), .lv true gs)] [] | none => False
  | .build t parts => abuild P t env parts.toList fun gs => K (.agg gs) [] []
  | .buildSlice t len parts => abuildSlice P t len env parts.toList fun gs esz => K (.ref (.sl m.next 0 0 0 len esz)) [((m.next, 0), .lv true gs)] []
  | .load t x => aload P t env m x K
  | .store t x v => astore P t env m x v K
  | .nilCheck x => match aev env x with | .ref (.ptr a k st off) => K (.ref (.ptr a k st off)) [] [] | .ref (.fn f cs) => K (.ref (.fn f cs)) [] [] | _ => False
  | .binOp op t x y _ => abin P op t (aev env x) (aev env y) fun v => K v [] []
  | .unOp op _ x => aun op (aev env x) fun v => K v [] []
  | .convert s d x => aconvert P s d (aev env x) fun v => K v [] []
  | .makeFunc (.func f) first caps => if first.isEmpty then (match capsOf env caps.toList with | some l => K (.ref (.fn f l)) [] [] | none => False) else False
  | .makeSlice t n c => amakeSlice P t m (aev env n) (aev env c) K
  | .slice t x lo hi none => asliceV P t m (aev env x) (lo.map (aev env)) (hi.map (aev env)) K
  | .fieldAddr t x f => afieldAddr P t (aev env x) f fun v => K v [] []
  | .indexAddr t x i => aindexAddr P t (aev env x) (aev env i) fun v => K v [] []
  | .index t x i => aindex P t (aev env x) (aev env i) fun v => K v [] []
  | .extract x j => match aev env x with | .tup vs => (match vs[j]? with | some v => K v [] [] | none => False) | _ => False
  | .call c =>
    match c.callee with
    | .value f => acallee env f (c.args.toList.map (aev env)) fun f vs => CallsVia P f vs m K
    | .builtin b => abuiltin P b c.argTypes.toList m (c.args.toList.map (aev env)) K
    | .invoke _ _ => False
  | _ => False

def setD (env : Env) : Option Nat → AV → Env
  | none, _ => env
  | some d, v => (d, v) :: env

def dstOf (ops : List Oper) (j : Nat) : Option Nat := (ops[j]?).bind (·.dst)

/-- What the earlier operations of a region wrote and read. -/
abbrev Hist := List (Nat × List Id × List Id)

def disj (a b : List Id) : Bool := a.all fun p => !b.contains p

def ordB (ops : List Oper) (i j : Nat) : Bool := ((Region.before ops.toArray).getD j 0).testBit i

def chk (ops : List Oper) (j : Nat) (wr rd : List Id) : Hist → Prop
  | [] => True
  | (i, wr', rd') :: r => ((disj wr' rd && disj wr' wr && disj rd' wr) || ordB ops i j) = true ∧ chk ops j wr rd r

/-- In a region that draws its order a call has to have one outcome. -/
def aopX (P : Program) (draw : Bool) (op : Op) (env : Env) (m : Mem) (K : AV → Ups → List Id → Prop) : Prop :=
  if draw then
    match op with
    | .call { callee := .value f, args, .. } => acallee env f (args.toList.map (aev env)) fun f vs => ∃ F v ups, CallsF P f vs m F (fun v' ups' => v' = v ∧ ups' = ups) ∧ K v ups F
    | op => aop P op env m K
  else aop P op env m K

def aops (P : Program) (draw : Bool) (all : List Oper) : List Oper → Nat → Hist → Env → Mem → (Env → Mem → Prop) → Prop
  | [], _, _, env, m, K => K env m
  | o :: rest, j, h, env, m, K =>
    match o.guard with
    | none => aopX P draw o.op env m fun v ups rd =>
        if draw then chk all j (ups.map (·.1)) rd h ∧ aops P draw all rest (j + 1) ((j, ups.map (·.1), rd) :: h) (setD env o.dst v) (m.upd ups).tick K
        else aops P draw all rest (j + 1) h (setD env o.dst v) (m.upd ups).tick K
    | some (g, want) =>
      match dstOf all g with
      | some t =>
        match lk env t with
        | .b x =>
          if x = want then aopX P draw o.op env m fun v ups rd =>
            if draw then chk all j (ups.map (·.1)) rd h ∧ aops P draw all rest (j + 1) ((j, ups.map (·.1), rd) :: h) (setD env o.dst v) (m.upd ups).tick K
            else aops P draw all rest (j + 1) h (setD env o.dst v) (m.upd ups).tick K
          else aops P draw all rest (j + 1) h (setD env o.dst (.tup [])) m.tick K
        | .tup [] => aops P draw all rest (j + 1) h (setD env o.dst (.tup [])) m.tick K
        | _ => False
      | none => False

/-! ### leaving names behind -/

def renTo (σ : List (Id × Id)) : Ren := fun a k => if a = 0 then some (0, k) else
  match σ with
  | [] => none
  | (p, q) :: r => if p.1 = a ∧ p.2 = k then some q else renTo r a k

def wkLoc (m : Mem) (ρ : Ren) : List (Id × Id) → List (Id × Blk)
  | [] => []
  | (p, q) :: r => (q, renBlk ρ (m.get p.1 p.2)) :: wkLoc m ρ r

def wkMem (σ : List (Id × Id)) (next : Nat) (m : Mem) : Mem :=
  { args := m.args.map (renBlk (renTo σ)), loc := wkLoc m (renTo σ) σ, next := next }

def wkOk (σ : List (Id × Id)) (next : Nat) : Bool :=
  σ.all (fun x => x.1.1 != 0 && x.2.1 != 0 && decide (x.2.1 < next)) && decide ((σ.map (·.1)).Nodup) && decide ((σ.map (·.2)).Nodup) && decide (0 < next)

def wkEnv (σ : List (Id × Id)) (env : Env) : Env → Prop
  | [] => True
  | (t, v) :: r => v = renV (renTo σ) (lk env t) ∧ wkEnv σ env r

/-- The state 'env', 'm' is one of 'env2', 'm2', names and what is no longer asked left behind. -/
def Weak (env : Env) (m : Mem) (env2 : Env) (m2 : Mem) : Prop :=
  ∃ σ, wkOk σ m2.next = true ∧ wkEnv σ env env2 ∧ m2 = wkMem σ m2.next m

def awpLoop (step : Env → Mem → (Exit → Env → Mem → Prop) → Prop) (env : Env) (m : Mem) (K : Exit → Env → Mem → Prop) : Prop :=
  ∃ I : Nat → Env → Mem → Prop, (∃ n env2 m2, Weak env m env2 m2 ∧ I n env2 m2) ∧
    ∀ n e m, I n e m → step e m fun x e' m' =>
      match x with
      | .normal => ∃ n' env2 m2, n' < n ∧ Weak e' m' env2 m2 ∧ I n' env2 m2
      | x => K x e' m'

def awp (P : Program) : Code → Env → Mem → (Exit → Env → Mem → Prop) → Prop
  | .skip, env, m, K => K .normal env m
  | .region _ ops draw, env, m, K => aops P draw ops.toList ops.toList 0 [] env m fun env m => K .normal env m
  | .seq a b, env, m, K => awp P a env m fun x env m => match x with | .normal => awp P b env m K | x => K x env m
  | .cond c t e, env, m, K =>
    match aev env c with
    | .b x => if x = true then awp P t env m K else awp P e env m K
    | _ => False
  | .block id body, env, m, K => awp P body env m fun x env m => match x with | .exit j => if j = id then K .normal env m else K (.exit j) env m | x => K x env m
  | .loop body, env, m, K => awpLoop (fun e m K' => awp P body e m K') env m K
  | .exit id, env, m, K => K (.exit id) env m
  | .ret, env, m, K => K .ret env m
  | _, _, _, _ => False

/-! ### a whole body -/

def ares (P : Program) (env : Env) (m : Mem) (K : AV → Prop) : ResultVar → Prop
  | .tmp t => K (lk env t)
  | .cell t ty => aload P ty env m (.tmp t) fun v _ _ => K v

def aress (P : Program) (env : Env) (m : Mem) : List ResultVar → (List AV → Prop) → Prop
  | [], K => K []
  | r :: rs, K => ares P env m (fun v => aress P env m rs fun vs => K (v :: vs)) r

def tupOf : List AV → AV
  | [v] => v
  | vs => .tup vs

/-- The names of what is handed back: the argument's own, and those that are new. -/
def renFin (keep : List Id) : Ren := fun a k => if a = 0 then some (0, k) else (idx keep a k).map fun j => (1, j)

def Fin (R : AV → List Blk → List Blk → Prop) (m : Mem) (r : AV) : Prop :=
  ∃ keep : List Id, keep.Nodup ∧ (∀ p ∈ keep, p.1 ≠ 0) ∧
    R (renV (renFin keep) r) (m.args.map (renBlk (renFin keep))) (keep.map fun p => renBlk (renFin keep) (m.get p.1 p.2))

def params : Nat → List AV → Env
  | _, [] => []
  | n, v :: r => (n, v) :: params (n + 1) r

def aleave (P : Program) (rs : List ResultVar) (R : AV → List Blk → List Blk → Prop) : Exit → Env → Mem → Prop
  | .normal, env, m => aress P env m rs fun vs => Fin R m (tupOf vs)
  | .ret, env, m => aress P env m rs fun vs => Fin R m (tupOf vs)
  | _, _, _ => False

def abody (P : Program) (c : Code) (rs : List ResultVar) (vs : List AV) (ms : List Blk) (R : AV → List Blk → List Blk → Prop) : Prop :=
  awp P c (params 0 vs) { args := ms, loc := [], next := 1 } (aleave P rs R)

/-! ### what a body has to be like -/

def dstsOk (n : Nat) (ops : List Oper) : Bool := ops.all fun o => match o.dst with | some d => decide (d < n) | none => true

def looks (ops : List Oper) (o : Oper) : List Nat :=
  (o.op.operands.toList.filterMap fun | .tmp t => some t | _ => none) ++ (match o.guard with | some (g, _) => (dstOf ops g).toList | none => [])

def slotsOk (ops : List Oper) : Bool :=
  let b := Region.before ops.toArray
  (List.range ops.length).all fun j => (List.range ops.length).all fun i =>
    match ops[i]?, ops[j]? with
    | some oi, some oj =>
      match oi.dst with
      | some d => i == j || !((looks ops oj).contains d || oj.dst == some d) || (if i < j then (b.getD j 0).testBit i else (b.getD i 0).testBit j)
      | none => true
    | _, _ => true

def edgesOk (ops : List Oper) : Bool :=
  (List.range ops.length).all fun j => match ops[j]? with
    | some o => o.after.toList.all fun e => !Region.binds .any e || decide (e.on < j)
    | none => true

def codeOk (n : Nat) : Code → Bool
  | .region _ ops draw => dstsOk n ops.toList && (!draw || (slotsOk ops.toList && edgesOk ops.toList))
  | .seq a b => codeOk n a && codeOk n b
  | .cond _ a b => codeOk n a && codeOk n b
  | .block _ b => codeOk n b
  | .loop b => codeOk n b
  | _ => true

def funOk (f : Func) : Bool := (match f.body with | some c => codeOk f.ntmps c | none => false) && !(f.name == "runtime.NumGoroutine") && decide (f.params.size + f.nfree ≤ f.ntmps)

end Go.Abs

/-
Plain laws of the abstract words: what is read as something still is when more names are known, when names change, and what reading and writing segments does to the cells.
-/
namespace Go.Abs
open Go
set_option linter.unusedVariables false
set_option linter.unusedSectionVars false
set_option linter.unusedSimpArgs false
set_option linter.defProp false

def Le (ρ ρ' : Rho) : Prop := ∀ a k p, ρ a k = some p → ρ' a k = some p

theorem Le.refl (ρ : Rho) : Le ρ ρ := fun _ _ _ h => h
theorem Le.trans {a b c : Rho} (h : Le a b) (h' : Le b c) : Le a c := fun x k p e => h' x k p (h x k p e)

section mono
variable {ρ ρ' : Rho} (h : Le ρ ρ')
include h

theorem RelCaps.mono : ∀ {cs : List (Nat × Nat × Nat × Nat)} {l : List Value}, RelCaps ρ cs l → RelCaps ρ' cs l
  | [], _, e => e
  | (a, k, st, off) :: r, _, ⟨p, l', h1, h2, h3⟩ => ⟨p, l', h _ _ _ h1, h2, RelCaps.mono h3⟩

theorem RelAt.mono : ∀ {x : Atom} {v : Value}, RelAt ρ x v → RelAt ρ' x v
  | .top, _, e => e
  | .s _, _, e => e
  | .ptr .., _, ⟨p, h1, h2⟩ => ⟨p, h _ _ _ h1, h2⟩
  | .nilp, _, e => e
  | .sl .., _, ⟨p, c, h1, h2⟩ => ⟨p, c, h _ _ _ h1, h2⟩
  | .nils, _, e => e
  | .sl0, _, e => e
  | .fn .., _, ⟨cs, h1, h2⟩ => ⟨cs, h1, RelCaps.mono h h2⟩
  | .nilf, _, e => e

theorem RelAts.mono : ∀ {x : List Atom} {l : List Value}, RelAts ρ x l → RelAts ρ' x l
  | [], _, e => e
  | _ :: _, _, ⟨v, l', h1, h2, h3⟩ => ⟨v, l', h1, RelAt.mono h h2, RelAts.mono h3⟩

theorem RelSg.mono : ∀ {g : Sg} {l : List Value}, RelSg ρ g l → RelSg ρ' g l
  | .ints .., _, e => e
  | .bools .., _, e => e
  | .cells .., _, ⟨h1, h2⟩ => ⟨h1, RelAts.mono h h2⟩

theorem RelSegs.mono : ∀ {gs : Segs} {s : Nat} {l : List Value}, RelSegs ρ s gs l → RelSegs ρ' s gs l
  | [], _, _, e => e
  | (_, _) :: _, _, _, ⟨h1, l1, l2, h2, h3, h4⟩ => ⟨h1, l1, l2, h2, RelSg.mono h h3, RelSegs.mono h4⟩

mutual
theorem RelV.mono : ∀ {x : AV} {v : Value}, RelV ρ x v → RelV ρ' x v
  | .top, _, _ => by simp [RelV]
  | .b _, _, e => by simpa [RelV] using e
  | .i _ _, _, e => by simpa [RelV] using e
  | .ref _, _, e => by simp only [RelV] at e ⊢; exact RelAt.mono h e
  | .agg _, _, e => by simp only [RelV] at e ⊢; obtain ⟨cs, h1, h2⟩ := e; exact ⟨cs, h1, RelSegs.mono h h2⟩
  | .tup _, _, e => by simp only [RelV] at e ⊢; obtain ⟨cs, h1, h2⟩ := e; exact ⟨cs, h1, RelVs.mono h2⟩
theorem RelVs.mono : ∀ {x : List AV} {l : List Value}, RelVs ρ x l → RelVs ρ' x l
  | [], _, e => by simpa [RelVs] using e
  | _ :: _, _, e => by simp only [RelVs] at e ⊢; obtain ⟨v, l', h1, h2, h3⟩ := e; exact ⟨v, l', h1, RelV.mono h2, RelVs.mono h3⟩
end
end mono

/-- 'σ' takes names of ρ to names of ρ'. -/
def Ren.To (σ : Ren) (ρ ρ' : Rho) : Prop := ∀ a k q p, σ a k = some q → ρ a k = some p → ρ' q.1 q.2 = some p

section ren
variable {ρ ρ' : Rho} {σ : Ren} (h : σ.To ρ ρ')
include h

theorem RelCaps.ren : ∀ {cs cs' : List (Nat × Nat × Nat × Nat)} {l : List Value}, RelCaps ρ cs l → renCaps σ cs = some cs' → RelCaps ρ' cs' l
  | [], _, _, e, e' => by simp only [renCaps, Option.some.injEq] at e'; subst e'; exact e
  | (a, k, st, off) :: r, cs', _, ⟨p, l', h1, h2, h3⟩, e' => by
    simp only [renCaps] at e'
    split at e'
    · rename_i q l1 hq hl
      simp only [Option.some.injEq] at e'
      subst e'
      exact ⟨p, l', h _ _ _ _ hq h1, h2, RelCaps.ren h3 hl⟩
    · simp at e'

theorem RelAt.ren : ∀ {x : Atom} {v : Value}, RelAt ρ x v → RelAt ρ' (renAt σ x) v
  | .top, _, e => e
  | .s _, _, e => e
  | .ptr a k st off, v, ⟨p, h1, h2⟩ => by
    simp only [renAt]
    split
    · rename_i q hq; exact ⟨p, h _ _ _ _ hq h1, h2⟩
    · subst h2; rfl
  | .nilp, _, e => e
  | .sl a k st off len esz, v, ⟨p, c, h1, h2, h3⟩ => by
    simp only [renAt]
    split
    · rename_i q hq; exact ⟨p, c, h _ _ _ _ hq h1, h2, h3⟩
    · rcases h3 with ⟨h3, _⟩ | ⟨_, ad, h3⟩ <;> subst h3 <;> rfl
  | .nils, _, e => e
  | .sl0, _, e => e
  | .fn f caps, v, ⟨cs, h1, h2⟩ => by
    simp only [renAt]
    split
    · rename_i q hq; exact ⟨cs, h1, RelCaps.ren h h2 hq⟩
    · subst h1; rfl
  | .nilf, _, e => e

theorem RelAts.ren : ∀ {x : List Atom} {l : List Value}, RelAts ρ x l → RelAts ρ' (x.map (renAt σ)) l
  | [], _, e => e
  | _ :: _, _, ⟨v, l', h1, h2, h3⟩ => ⟨v, l', h1, RelAt.ren h h2, RelAts.ren h3⟩

theorem RelSg.ren : ∀ {g : Sg} {l : List Value}, RelSg ρ g l → RelSg ρ' (renSg σ g) l
  | .ints .., _, e => e
  | .bools .., _, e => e
  | .cells .., _, ⟨h1, h2⟩ => ⟨by simpa using h1, RelAts.ren h h2⟩

omit h in
theorem renSg_len (g : Sg) : (renSg σ g).len = g.len := by cases g <;> rfl

theorem RelSegs.ren : ∀ {gs : Segs} {s : Nat} {l : List Value}, RelSegs ρ s gs l → RelSegs ρ' s (renSegs σ gs) l
  | [], _, _, e => e
  | (_, g) :: _, _, _, ⟨h1, l1, l2, h2, h3, h4⟩ => ⟨h1, l1, l2, h2, RelSg.ren h h3, by rw [renSg_len]; exact RelSegs.ren h4⟩

mutual
theorem RelV.ren : ∀ {x : AV} {v : Value}, RelV ρ x v → RelV ρ' (renV σ x) v
  | .top, _, _ => by simp [RelV, renV]
  | .b _, _, e => by simpa [RelV, renV] using e
  | .i _ _, _, e => by simpa [RelV, renV] using e
  | .ref _, _, e => by simp only [RelV, renV] at e ⊢; exact RelAt.ren h e
  | .agg _, _, e => by simp only [RelV, renV] at e ⊢; obtain ⟨cs, h1, h2⟩ := e; exact ⟨cs, h1, RelSegs.ren h h2⟩
  | .tup _, _, e => by simp only [RelV, renV] at e ⊢; obtain ⟨cs, h1, h2⟩ := e; exact ⟨cs, h1, RelVs.ren h2⟩
theorem RelVs.ren : ∀ {x : List AV} {l : List Value}, RelVs ρ x l → RelVs ρ' (renVs σ x) l
  | [], _, e => by simpa [RelVs, renVs] using e
  | _ :: _, _, e => by simp only [RelVs, renVs] at e ⊢; obtain ⟨v, l', h1, h2, h3⟩ := e; exact ⟨v, l', h1, RelV.ren h2, RelVs.ren h3⟩
end

theorem Holds.ren {w : World} {p : Nat × Nat × Nat} {gs : Segs} {fz : Nat × Nat} : Holds ρ w p gs fz → Holds ρ' w p (renSegs σ gs) fz := by
  rintro ⟨arr, T, pre, l, post, h1, h2, h3, h4, h5⟩
  exact ⟨arr, T, pre, l, post, h1, h2, h3, h4, RelSegs.ren h h5⟩
end ren

theorem Holds.mono {ρ ρ' : Rho} (h : Le ρ ρ') {w : World} {p : Nat × Nat × Nat} {gs : Segs} {fz : Nat × Nat} : Holds ρ w p gs fz → Holds ρ' w p gs fz := by
  rintro ⟨arr, T, pre, l, post, h1, h2, h3, h4, h5⟩
  exact ⟨arr, T, pre, l, post, h1, h2, h3, h4, RelSegs.mono h h5⟩

theorem Holds.world {ρ : Rho} {w w' : World} {p : Nat × Nat × Nat} {gs : Segs} {fz : Nat × Nat} (e : w'.heap[p.1]? = w.heap[p.1]?) : Holds ρ w p gs fz → Holds ρ w' p gs fz := by
  rintro ⟨arr, T, pre, l, post, h1, h2, h3, h4, h5⟩
  exact ⟨arr, T, pre, l, post, e ▸ h1, h2, h3, h4, h5⟩

theorem RelAt.one {ρ : Rho} : ∀ {x : Atom} {v : Value}, RelAt ρ x v → v.oneCell' = true
  | .top, _, e => e
  | .s _, _, e => by cases e; rfl
  | .ptr .., _, ⟨_, _, e⟩ => by cases e; rfl
  | .nilp, _, e => by cases e; rfl
  | .sl .., _, ⟨_, _, _, _, e⟩ => by rcases e with ⟨e, _⟩ | ⟨_, _, e⟩ <;> cases e <;> rfl
  | .nils, _, e => by cases e; rfl
  | .sl0, _, ⟨_, _, e⟩ => by cases e; rfl
  | .fn .., _, ⟨_, e, _⟩ => by cases e; rfl
  | .nilf, _, e => by cases e; rfl

theorem RelAts.one {ρ : Rho} : ∀ {x : List Atom} {l : List Value}, RelAts ρ x l → ∀ v ∈ l, v.oneCell' = true
  | [], _, e, v, hv => by cases e; cases hv
  | _ :: _, _, ⟨u, l', h1, h2, h3⟩, v, hv => by
    subst h1
    rcases List.mem_cons.1 hv with rfl | hv
    · exact h2.one
    · exact RelAts.one h3 v hv

theorem RelAts.length {ρ : Rho} : ∀ {x : List Atom} {l : List Value}, RelAts ρ x l → l.length = x.length
  | [], _, e => by cases e; rfl
  | _ :: _, _, ⟨_, _, h1, _, h3⟩ => by subst h1; simp [RelAts.length h3]

theorem RelSg.length {ρ : Rho} : ∀ {g : Sg} {l : List Value}, RelSg ρ g l → l.length = g.len
  | .ints .., _, ⟨h1, h2⟩ => by subst h2; simpa [Sg.len] using h1
  | .bools .., _, ⟨h1, h2⟩ => by subst h2; simpa [Sg.len] using h1
  | .cells .., _, ⟨h1, h2⟩ => by rw [RelAts.length h2]; exact h1

theorem RelSg.one {ρ : Rho} : ∀ {g : Sg} {l : List Value}, RelSg ρ g l → ∀ v ∈ l, v.oneCell' = true
  | .ints .., _, ⟨_, h2⟩, v, hv => by subst h2; obtain ⟨x, _, rfl⟩ := List.mem_map.1 hv; rfl
  | .bools .., _, ⟨_, h2⟩, v, hv => by subst h2; obtain ⟨x, _, rfl⟩ := List.mem_map.1 hv; rfl
  | .cells .., _, ⟨_, h2⟩, v, hv => RelAts.one h2 v hv

theorem RelSegs.one {ρ : Rho} : ∀ {gs : Segs} {s : Nat} {l : List Value}, RelSegs ρ s gs l → ∀ v ∈ l, v.oneCell' = true
  | [], _, _, e, v, hv => by cases e; cases hv
  | (_, _) :: _, _, _, ⟨_, l1, l2, h2, h3, h4⟩, v, hv => by
    subst h2
    rcases List.mem_append.1 hv with hv | hv
    · exact h3.one v hv
    · exact RelSegs.one h4 v hv

theorem RelSegs.length {ρ : Rho} : ∀ {gs : Segs} {s : Nat} {l : List Value}, RelSegs ρ s gs l → l.length = segsLen gs
  | [], _, _, e => by cases e; rfl
  | (_, _) :: _, _, _, ⟨_, l1, l2, h2, h3, h4⟩ => by subst h2; simp [segsLen, h3.length, RelSegs.length h4]

/-! ### one segment among all -/

theorem seg_split {ρ : Rho} : ∀ {gs : Segs} {s : Nat} {l : List Value} {st : Nat} {g : Sg}, RelSegs ρ s gs l → seg? gs st = some g →
    ∃ l1 l2 l3, l = l1 ++ l2 ++ l3 ∧ s + l1.length = st ∧ RelSg ρ g l2 ∧
      ∀ g' l2', g'.len = g.len → RelSg ρ g' l2' → RelSegs ρ s (updSeg gs st g') (l1 ++ l2' ++ l3)
  | [], _, _, _, _, _, e => by simp [seg?] at e
  | (s0, g0) :: r, s, l, st, g, ⟨h1, l1, l2, h2, h3, h4⟩, e => by
    simp only [seg?] at e
    split at e
    · rename_i hs
      simp only [Option.some.injEq] at e
      subst e
      refine ⟨[], l1, l2, by simpa using h2, by simp [← h1, hs], h3, ?_⟩
      intro g' l2' hl hr
      simp only [updSeg, hs, if_true, List.nil_append]
      exact ⟨hs ▸ h1, l2', l2, rfl, hr, by rw [hl]; exact h4⟩
    · rename_i hs
      obtain ⟨a1, a2, a3, b1, b2, b3, b4⟩ := seg_split h4 e
      refine ⟨l1 ++ a1, a2, a3, by rw [h2, b1]; simp, by simp [h3.length]; omega, b3, ?_⟩
      intro g' l2' hl hr
      simp only [updSeg, hs, if_false]
      exact ⟨h1, l1, a1 ++ l2' ++ a3, by simp, h3, b4 g' l2' hl hr⟩

theorem RelAts.getD {ρ : Rho} : ∀ {x : List Atom} {l : List Value} {j : Nat}, RelAts ρ x l → j < x.length → ∃ v, l[j]? = some v ∧ RelAt ρ (x.getD j .top) v
  | [], _, _, _, h => by simp at h
  | _ :: _, _, 0, ⟨v, l', h1, h2, _⟩, _ => ⟨v, by simp [h1], h2⟩
  | _ :: r, _, j + 1, ⟨v, l', h1, _, h3⟩, h => by
    obtain ⟨u, e, hu⟩ := RelAts.getD (j := j) h3 (by simpa using h)
    exact ⟨u, by simp [h1, e], by simpa using hu⟩

theorem ldSc_sound {ρ : Rho} {gs : Segs} {l : List Value} {st off : Nat} {K : AV → Prop} (h : RelSegs ρ 0 gs l) (hk : ldSc gs st off K) :
    ∃ v val, K v ∧ l[st + off]? = some val ∧ RelV ρ v val ∧ val.oneCell' = true := by
  unfold ldSc at hk
  have key : ∀ g, seg? gs st = some g → ∀ v, off < g.len → (∀ l2, RelSg ρ g l2 → ∃ val, l2[off]? = some val ∧ RelV ρ v val ∧ val.oneCell' = true) → ∃ val, l[st + off]? = some val ∧ RelV ρ v val ∧ val.oneCell' = true := by
    intro g hg v ho hv
    obtain ⟨l1, l2, l3, e, hl1, hr, _⟩ := seg_split h hg
    obtain ⟨val, h1, h2, h3⟩ := hv l2 hr
    refine ⟨val, ?_, h2, h3⟩
    have hlen := hr.length
    have : st = l1.length := by omega
    subst this
    rw [e, List.append_assoc, List.getElem?_append_right (by omega), List.getElem?_append_left (by omega)]
    rw [← h1]; congr 1; omega
  split at hk
  · rename_i k n xs hg
    obtain ⟨ho, hK⟩ := hk
    obtain ⟨val, h1, h2, h3⟩ := key _ hg (.i k (xs.getD off 0)) ho (by
      rintro l2 ⟨hn, rfl⟩
      refine ⟨.int k (xs.getD off 0), ?_, by simp [RelV], rfl⟩
      have : off < xs.length := by rw [hn]; exact ho
      simp [this])
    exact ⟨_, val, hK, h1, h2, h3⟩
  · rename_i n xs hg
    obtain ⟨ho, hK⟩ := hk
    obtain ⟨val, h1, h2, h3⟩ := key _ hg (.b (xs.getD off false)) ho (by
      rintro l2 ⟨hn, rfl⟩
      refine ⟨.bool (xs.getD off false), ?_, by simp [RelV], rfl⟩
      have : off < xs.length := by rw [hn]; exact ho
      simp [this])
    exact ⟨_, val, hK, h1, h2, h3⟩
  · rename_i n vs hg
    obtain ⟨ho, hK⟩ := hk
    obtain ⟨val, h1, h2, h3⟩ := key _ hg (.ref (vs.getD off .top)) ho (by
      rintro l2 ⟨hn, hr⟩
      obtain ⟨v, e, hv⟩ := RelAts.getD (j := off) hr (by rw [hn]; exact ho)
      exact ⟨v, e, by simpa [RelV] using hv, hv.one⟩)
    exact ⟨_, val, hK, h1, h2, h3⟩
  · exact hk.elim

theorem dropTo_sound {ρ : Rho} : ∀ {gs : Segs} {s : Nat} {l : List Value} {st : Nat} {g : Sg}, RelSegs ρ s gs l → seg? gs st = some g →
    ∃ l1 l2, l = l1 ++ l2 ∧ s + l1.length = st ∧ RelSegs ρ st (dropTo gs st) l2
  | [], _, _, _, _, _, e => by simp [seg?] at e
  | (s0, g0) :: r, s, l, st, g, h, e => by
    simp only [seg?] at e
    split at e
    · rename_i hs
      refine ⟨[], l, rfl, by simp [← h.1, hs], ?_⟩
      simp only [dropTo, hs, if_true]
      have := h.1
      rw [hs] at this
      subst this
      subst hs
      exact h
    · rename_i hs
      obtain ⟨h1, l1, l2, h2, h3, h4⟩ := h
      obtain ⟨a1, a2, b1, b2, b3⟩ := dropTo_sound h4 e
      refine ⟨l1 ++ a1, a2, by rw [h2, b1]; simp, by simp [h3.length]; omega, ?_⟩
      simp only [dropTo, hs, if_false]
      exact b3

theorem takeSz_sound {ρ : Rho} {st : Nat} : ∀ {gs : Segs} {sz s : Nat} {l : List Value} {hs : Segs}, RelSegs ρ s gs l → st ≤ s → takeSz st gs sz = some hs →
    ∃ l1 l2, l = l1 ++ l2 ∧ l1.length = sz ∧ RelSegs ρ (s - st) hs l1
  | gs, 0, s, l, hs, _, _, e => by
    have : hs = [] := by cases gs <;> simp [takeSz] at e <;> exact e
    subst this
    exact ⟨[], l, rfl, rfl, rfl⟩
  | [], _ + 1, _, _, _, _, _, e => by simp [takeSz] at e
  | (s0, g) :: r, n + 1, s, l, hs, ⟨h1, l1, l2, h2, h3, h4⟩, hst, e => by
    simp only [takeSz] at e
    split at e
    · rename_i hg
      cases hq : takeSz st r (n + 1 - g.len) with
      | none => simp [hq] at e
      | some hs' =>
        simp only [hq, Option.map_some, Option.some.injEq] at e
        subst e
        obtain ⟨a1, a2, b1, b2, b3⟩ := takeSz_sound h4 (by omega) hq
        refine ⟨l1 ++ a1, a2, by rw [h2, b1]; simp, by simp [h3.length, b2]; omega, by rw [h1], l1, a1, rfl, h3, ?_⟩
        have : s + g.len - st = s - st + g.len := by omega
        rw [this] at b3
        exact b3
    · simp at e

theorem RelAts.append {ρ : Rho} : ∀ {x y : List Atom} {l m : List Value}, RelAts ρ x l → RelAts ρ y m → RelAts ρ (x ++ y) (l ++ m)
  | [], _, _, _, e, h => by cases e; simpa using h
  | _ :: _, _, _, _, ⟨v, l', h1, h2, h3⟩, h => by subst h1; exact ⟨v, l' ++ _, rfl, h2, RelAts.append h3 h⟩

theorem RelAts.take {ρ : Rho} : ∀ {x : List Atom} {l : List Value} (n : Nat), RelAts ρ x l → RelAts ρ (x.take n) (l.take n)
  | [], _, n, e => by cases e; simp [RelAts]
  | _ :: _, _, 0, _ => by simp [RelAts]
  | _ :: _, _, n + 1, ⟨v, l', h1, h2, h3⟩ => by subst h1; exact ⟨v, _, rfl, h2, RelAts.take n h3⟩

theorem RelAts.drop {ρ : Rho} : ∀ {x : List Atom} {l : List Value} (n : Nat), RelAts ρ x l → RelAts ρ (x.drop n) (l.drop n)
  | [], _, n, e => by cases e; simp [RelAts]
  | _ :: _, _, 0, h => h
  | _ :: _, _, n + 1, ⟨v, l', h1, _, h3⟩ => by subst h1; exact RelAts.drop n h3

theorem spl_eq {α : Type} (xs : List α) (off : Nat) (ys : List α) (h : off + ys.length ≤ xs.length) : spl xs off ys = xs.take off ++ ys ++ xs.drop (off + ys.length) := by
  unfold spl
  split
  · rename_i y
    have : off < xs.length := by simp at h; omega
    rw [List.set_eq_take_append_cons_drop, if_pos this]
    simp
  · rfl

theorem dropTo_some : ∀ {gs : Segs} {st : Nat}, dropTo gs st ≠ [] → ∃ g, seg? gs st = some g
  | [], _, h => absurd rfl h
  | (s, g) :: r, st, h => by
    unfold dropTo at h
    unfold seg?
    split
    · exact ⟨_, rfl⟩
    · rename_i hs
      rw [if_neg hs] at h
      exact dropTo_some h

theorem ldMulti_sound {ρ : Rho} {gs : Segs} {l : List Value} {st off sz : Nat} {K : AV → Prop} (h0 : 0 < sz) (h : RelSegs ρ 0 gs l) (hk : ldMulti gs st off sz K) :
    ∃ v l1 l2 l3, K v ∧ l = l1 ++ l2 ++ l3 ∧ l1.length = st + off ∧ l2.length = sz ∧ RelV ρ v (.agg l2.toArray) := by
  unfold ldMulti at hk
  obtain ⟨g, hg⟩ : ∃ g, seg? gs (st + off) = some g := dropTo_some fun e => by
    rw [e] at hk
    cases sz with
    | zero => omega
    | succ n => exact hk
  obtain ⟨l1, l2, e, hl, hr⟩ := dropTo_sound h hg
  split at hk
  · rename_i hs ht
    obtain ⟨a1, a2, b1, b2, b3⟩ := takeSz_sound hr (Nat.le_refl _) ht
    exact ⟨_, l1, a1, a2, hk, by rw [e, b1]; simp, by omega, b2, by simp only [RelV]; exact ⟨a1, rfl, by simpa using b3⟩⟩
  · exact hk.elim

theorem ldAg_sound {ρ : Rho} {gs : Segs} {l : List Value} {st off sz : Nat} {K : AV → Prop} (h0 : 0 < sz) (h : RelSegs ρ 0 gs l) (hk : ldAg gs st off sz K) :
    ∃ v l1 l2 l3, K v ∧ l = l1 ++ l2 ++ l3 ∧ l1.length = st + off ∧ l2.length = sz ∧ RelV ρ v (.agg l2.toArray) := by
  have key : ∀ g, seg? gs st = some g → ∀ g' : Sg, g'.len = sz → off + sz ≤ g.len → (∀ l2, RelSg ρ g l2 → RelSg ρ g' ((l2.drop off).take sz)) → K (.agg [(0, g')]) →
      ∃ v l1 l2 l3, K v ∧ l = l1 ++ l2 ++ l3 ∧ l1.length = st + off ∧ l2.length = sz ∧ RelV ρ v (.agg l2.toArray) := by
    intro g hg g' hlen ho hr hK
    obtain ⟨l1, l2, l3, e, hl1, hr2, _⟩ := seg_split h hg
    have h2 := hr2.length
    refine ⟨_, l1 ++ l2.take off, (l2.drop off).take sz, (l2.drop off).drop sz ++ l3, hK, ?_, by simp; omega, by simp; omega, ?_⟩
    · rw [e]
      have e2 : l2 = l2.take off ++ ((l2.drop off).take sz ++ (l2.drop off).drop sz) := by rw [List.take_append_drop, List.take_append_drop]
      conv => lhs; rw [e2]
      simp
    · simp only [RelV]
      exact ⟨_, rfl, rfl, _, [], by simp, hr l2 hr2, by simp [RelSegs]⟩
  unfold ldAg at hk
  split at hk
  · rename_i k n xs hg
    split at hk
    · rename_i hn
      obtain ⟨rfl, hK⟩ := hk
      subst hn
      refine key _ hg _ rfl (by simp [Sg.len]) (fun l2 hr => ?_) hK
      have := hr.length
      simp only [Sg.len] at this
      rw [List.drop_zero, List.take_of_length_le (by omega)]
      exact hr
    · split at hk
      · obtain ⟨ho, hK⟩ := hk
        refine key _ hg _ rfl ho (fun l2 hr => ?_) hK
        obtain ⟨hn, rfl⟩ := hr
        exact ⟨by simp; omega, by simp [List.map_take, List.map_drop]⟩
      · exact ldMulti_sound h0 h hk
  · rename_i n xs hg
    split at hk
    · rename_i hn
      obtain ⟨rfl, hK⟩ := hk
      subst hn
      refine key _ hg _ rfl (by simp [Sg.len]) (fun l2 hr => ?_) hK
      have := hr.length
      simp only [Sg.len] at this
      rw [List.drop_zero, List.take_of_length_le (by omega)]
      exact hr
    · split at hk
      · obtain ⟨ho, hK⟩ := hk
        refine key _ hg _ rfl ho (fun l2 hr => ?_) hK
        obtain ⟨hn, rfl⟩ := hr
        exact ⟨by simp; omega, by simp [List.map_take, List.map_drop]⟩
      · exact ldMulti_sound h0 h hk
  · rename_i hg; exact ldMulti_sound h0 h hk
  · exact hk.elim

/-! ### writing -/

theorem splice_sound {ρ : Rho} {g g' : Sg} {off : Nat} {K : Sg → Prop} {l l' : List Value} (h : RelSg ρ g l) (h' : RelSg ρ g' l') (hk : splice g off g' K) :
    ∃ g2, K g2 ∧ g2.len = g.len ∧ off + l'.length ≤ l.length ∧ RelSg ρ g2 (l.take off ++ l' ++ l.drop (off + l'.length)) := by
  have hl := h.length
  have hl' := h'.length
  unfold splice at hk
  split at hk
  · rename_i k n xs k' m ys
    obtain ⟨rfl, hk⟩ := hk
    obtain ⟨hn, rfl⟩ := h
    obtain ⟨hm, rfl⟩ := h'
    simp only [Sg.len] at hl hl'
    split at hk
    · rename_i hmn
      obtain ⟨rfl, hK⟩ := hk
      refine ⟨_, hK, rfl, by omega, by omega, ?_⟩
      rw [List.take_zero, List.drop_of_length_le (by omega)]
      simp
    · obtain ⟨ho, hK⟩ := hk
      refine ⟨_, hK, rfl, by omega, ?_, ?_⟩
      · rw [spl_eq _ _ _ (by omega)]; simp; omega
      · rw [spl_eq _ _ _ (by omega)]; simp [List.map_take, List.map_drop]
  · rename_i n xs m ys
    obtain ⟨hn, rfl⟩ := h
    obtain ⟨hm, rfl⟩ := h'
    simp only [Sg.len] at hl hl'
    split at hk
    · rename_i hmn
      obtain ⟨rfl, hK⟩ := hk
      refine ⟨_, hK, rfl, by omega, by omega, ?_⟩
      rw [List.take_zero, List.drop_of_length_le (by omega)]
      simp
    · obtain ⟨ho, hK⟩ := hk
      refine ⟨_, hK, rfl, by omega, ?_, ?_⟩
      · rw [spl_eq _ _ _ (by omega)]; simp; omega
      · rw [spl_eq _ _ _ (by omega)]; simp [List.map_take, List.map_drop]
  · rename_i n xs m ys
    obtain ⟨hn, hx⟩ := h
    obtain ⟨hm, hy⟩ := h'
    have e1 := hx.length
    have e2 := hy.length
    simp only [Sg.len] at hl hl'
    split at hk
    · rename_i hmn
      obtain ⟨rfl, hK⟩ := hk
      refine ⟨_, hK, rfl, by omega, by omega, ?_⟩
      rw [List.take_zero, List.drop_of_length_le (by omega)]
      simpa using hy
    · obtain ⟨ho, hK⟩ := hk
      refine ⟨_, hK, rfl, by omega, ?_, ?_⟩
      · rw [spl_eq _ _ _ (by omega)]; simp; omega
      · rw [spl_eq _ _ _ (by omega), ← e2]
        exact ((hx.take off).append hy).append (hx.drop _)
  · exact hk.elim

/-- A list with some of its elements put anew. -/
def over (l : List Value) (at_ : Nat) (l' : List Value) : List Value := l.take at_ ++ l' ++ l.drop (at_ + l'.length)

theorem over_length (l : List Value) (j : Nat) (l' : List Value) (h : j + l'.length ≤ l.length) : (over l j l').length = l.length := by
  unfold over; simp; omega

theorem over_over (l : List Value) (j : Nat) (a b : List Value) (h : j + a.length + b.length ≤ l.length) : over (over l j a) (j + a.length) b = over l j (a ++ b) := by
  unfold over
  have h1 : (List.take j l ++ a).length = j + a.length := by simp; omega
  rw [List.take_append_of_le_length (by omega), List.take_of_length_le (by omega), List.drop_append, List.drop_of_length_le (by omega), h1]
  simp only [List.nil_append, List.drop_drop, List.length_append, List.append_assoc]
  congr 3
  congr 1
  omega

theorem seg_over {ρ : Rho} {gs : Segs} {l : List Value} {st off : Nat} {g g' : Sg} {K : Segs → Prop} {l' : List Value} (h : RelSegs ρ 0 gs l) (hg : seg? gs st = some g) (h' : RelSg ρ g' l')
    (hk : splice g off g' fun g2 => K (updSeg gs st g2)) : ∃ gs', K gs' ∧ st + off + l'.length ≤ l.length ∧ RelSegs ρ 0 gs' (over l (st + off) l') := by
  obtain ⟨l1, l2, l3, e, hl1, hr, hu⟩ := seg_split h hg
  obtain ⟨g2, hK, h1, h2, h3⟩ := splice_sound hr h' hk
  have := hr.length
  refine ⟨_, hK, by rw [e]; simp; omega, ?_⟩
  have := hu g2 _ h1 h3
  have e2 : over l (st + off) l' = l1 ++ (l2.take off ++ l' ++ l2.drop (off + l'.length)) ++ l3 := by
    subst e
    have : st = l1.length := by omega
    subst this
    unfold over
    simp only [List.append_assoc]
    rw [List.take_length_add_append, List.take_append_of_le_length (by omega)]
    have : l1.length + off + l'.length = l1.length + (off + l'.length) := by omega
    rw [this, List.drop_length_add_append, List.drop_append_of_le_length (by omega)]
    simp
  rw [e2]
  exact this

theorem stMulti_sound {ρ : Rho} {st : Nat} : ∀ {vs : Segs} {gs : Segs} {l : List Value} {s : Nat} {K : Segs → Prop} {l' : List Value}, RelSegs ρ 0 gs l → RelSegs ρ s vs l' → st + s ≤ l.length → stMulti gs st vs K →
    ∃ gs', K gs' ∧ st + s + l'.length ≤ l.length ∧ RelSegs ρ 0 gs' (over l (st + s) l')
  | [], gs, l, s, K, l', h, h', hs, hk => by
    cases h'
    refine ⟨gs, hk, by simpa using hs, ?_⟩
    unfold over
    simpa using h
  | (s0, g') :: r, gs, l, s, K, l', h, ⟨h1, l1, l2, h2, h3, h4⟩, hs, hk => by
    subst h1
    simp only [stMulti] at hk
    split at hk
    · rename_i g hg
      obtain ⟨hlen, hk⟩ := hk
      obtain ⟨gs', hK, hb, hr⟩ := seg_over (K := fun gs2 => stMulti gs2 st r K) h hg h3 hk
      have hl3 := h3.length
      have hlo := over_length l (st + s0 + 0) l1 hb
      obtain ⟨gs2, hK2, hb2, hr2⟩ := stMulti_sound (s := s0 + g'.len) hr h4 (by rw [hlo]; omega) hK
      refine ⟨gs2, hK2, by subst h2; simp; omega, ?_⟩
      subst h2
      have e : st + (s0 + g'.len) = st + s0 + 0 + l1.length := by omega
      rw [e, over_over _ _ _ _ (by omega)] at hr2
      exact hr2
    · exact hk.elim

theorem stSegs_sound {ρ : Rho} {gs : Segs} {l : List Value} {st off : Nat} {vs : Segs} {K : Segs → Prop} {l' : List Value} (h : RelSegs ρ 0 gs l) (h' : RelSegs ρ 0 vs l') (hk : stSegs gs st off vs K) :
    ∃ gs', K gs' ∧ st + off + l'.length ≤ l.length ∧ RelSegs ρ 0 gs' (over l (st + off) l') := by
  unfold stSegs at hk
  split at hk
  · rename_i s0 g'
    obtain ⟨_, l1, l2, h2, h3, h4⟩ := h'
    have : l2 = [] := h4
    subst this
    rw [List.append_nil] at h2
    subst h2
    split at hk
    · rename_i g hg
      exact seg_over h hg h3 hk
    · exact hk.elim
  · obtain ⟨rfl, hsome, hk⟩ := hk
    obtain ⟨g, hg⟩ := Option.isSome_iff_exists.1 hsome
    obtain ⟨l1, l2, l3, e, hl1, _, _⟩ := seg_split h hg
    have := stMulti_sound (s := 0) h h' (by rw [e]; simp; omega) hk
    simpa using this

theorem segsOfAV_sound {ρ : Rho} {x : AV} {v : Value} {gs : Segs} (h : RelV ρ x v) (e : segsOfAV x = some gs) : RelSegs ρ 0 gs v.cells.toList := by
  cases x <;> simp only [segsOfAV, Option.some.injEq, reduceCtorEq] at e <;> subst e <;> simp only [RelV] at h
  · subst h; exact ⟨rfl, [.bool _], [], rfl, ⟨rfl, rfl⟩, rfl⟩
  · subst h; exact ⟨rfl, [.int _ _], [], rfl, ⟨rfl, rfl⟩, rfl⟩
  · have h1 := h.one
    have : v.cells = #[v] := by cases v <;> simp_all [Value.cells, Value.oneCell']
    rw [this]
    exact ⟨rfl, [v], [], rfl, ⟨rfl, v, [], rfl, h, rfl⟩, rfl⟩
  · obtain ⟨cs, rfl, h⟩ := h
    simpa [Value.cells] using h

end Go.Abs

/-
What each operation of the model does to values and memory that read as the abstract words say: the memory's part.
-/
namespace Go.Abs
open Go
set_option linter.unusedVariables false
set_option linter.unusedSectionVars false
set_option linter.unusedSimpArgs false
set_option linter.defProp false

def fupd (get : Nat → Nat → Blk) (p : Id) (b : Blk) : Nat → Nat → Blk := fun a k => if p.1 = a ∧ p.2 = k then b else get a k

theorem Mem.get_put (m : Mem) (p : Id) (b : Blk) (h : p.1 = 0 → p.2 < m.args.length) : (m.put p b).get = fupd m.get p b := by
  funext a k
  obtain ⟨x, y⟩ := p
  simp only [Mem.put, fupd]
  by_cases hx : x = 0
  · subst hx
    simp only [Mem.get]
    have := h rfl
    by_cases ha : a = 0
    · subst ha
      simp only [if_true, true_and, List.getD_eq_getElem?_getD, List.getElem?_set]
      by_cases hk : y = k
      · subst hk; simp at this; simp [this]
      · simp [hk]
    · simp only [ha, if_false, if_true]
      rw [if_neg]
      rintro ⟨rfl, _⟩
      exact ha rfl
  · simp only [hx, if_false, Mem.get]
    by_cases ha : a = 0
    · subst ha
      simp [hx]
    · simp only [ha, if_false, assoc]

theorem Mem.put_args (m : Mem) (p : Id) (b : Blk) : (m.put p b).args.length = m.args.length := by
  unfold Mem.put; split <;> simp

theorem Mem.put_next (m : Mem) (p : Id) (b : Blk) : (m.put p b).next = m.next := by
  unfold Mem.put; split <;> simp

theorem Mem.upd_args (ups : Ups) : ∀ (m : Mem), (m.upd ups).args.length = m.args.length := by
  induction ups with
  | nil => intro m; rfl
  | cons x r ih => intro m; obtain ⟨p, b⟩ := x; simp only [Mem.upd]; rw [ih, Mem.put_args]

theorem Mem.upd_next (ups : Ups) : ∀ (m : Mem), (m.upd ups).next = m.next := by
  induction ups with
  | nil => intro m; rfl
  | cons x r ih => intro m; obtain ⟨p, b⟩ := x; simp only [Mem.upd]; rw [ih, Mem.put_next]

def fupds (get : Nat → Nat → Blk) : Ups → Nat → Nat → Blk
  | [] => get
  | (p, b) :: r => fupds (fupd get p b) r

theorem Mem.get_upd (ups : Ups) : ∀ (m : Mem), (∀ x ∈ ups, x.1.1 = 0 → x.1.2 < m.args.length) → (m.upd ups).get = fupds m.get ups := by
  induction ups with
  | nil => intro m _; rfl
  | cons x r ih =>
    intro m h
    obtain ⟨p, b⟩ := x
    simp only [Mem.upd, fupds]
    rw [ih _ (fun y hy => by rw [Mem.put_args]; exact h y (by simp [hy])), Mem.get_put _ _ _ (h (p, b) (by simp))]

theorem Mem.get_tick (m : Mem) : m.tick.get = m.get := rfl

theorem Mem.live_lt {m : Mem} {k : Nat} {rw_ : Bool} {gs : Segs} (h : m.get 0 k = .lv rw_ gs) : k < m.args.length := by
  simp only [Mem.get, if_true, List.getD_eq_getElem?_getD] at h
  rcases Nat.lt_or_ge k m.args.length with h' | h'
  · exact h'
  · simp [List.getElem?_eq_none h'] at h

/-! ### the world -/

theorem Kept.refl (own : Nat → Prop) (w : World) : Kept own w w := ⟨Nat.le_refl _, fun _ _ _ => rfl, fun _ arr T fz h => ⟨arr, T, fz, h, rfl⟩, rfl, rfl, fun _ => rfl⟩

theorem Kept.trans {own : Nat → Prop} {w w1 w2 : World} (h : Kept own w w1) (h' : Kept own w1 w2) : Kept own w w2 :=
  ⟨Nat.le_trans h.grows h'.grows, fun b hb ho => by rw [h'.same b (Nat.lt_of_lt_of_le hb h.grows) ho, h.same b hb ho],
   fun b arr T fz e => by
    obtain ⟨a1, T1, f1, e1, s1⟩ := h.sizes b arr T fz e
    obtain ⟨a2, T2, f2, e2, s2⟩ := h'.sizes b a1 T1 f1 e1
    exact ⟨a2, T2, f2, e2, s2.trans s1⟩, h'.os.trans h.os, h'.out.trans h.out, fun a => (h'.frz a).trans (h.frz a)⟩

theorem Kept.mono {own own' : Nat → Prop} {w w' : World} (h : Kept own w w') (ho : ∀ b, b < w.heap.size → own b → own' b) : Kept own' w w' :=
  ⟨h.grows, fun b hb hn => h.same b hb (fun x => hn (ho b hb x)), h.sizes, h.os, h.out, h.frz⟩

theorem Kept.draw (own : Nat → Prop) (w : World) (n : Nat) : Kept own w { w with drawn := n } := ⟨Nat.le_refl _, fun _ _ _ => rfl, fun _ arr T fz h => ⟨arr, T, fz, h, rfl⟩, rfl, rfl, fun _ => rfl⟩

theorem alloc_heap (w : World) (o : Obj) (b : Nat) (h : b < w.heap.size) : (w.alloc o).heap[b]? = w.heap[b]? := by
  show (w.heap.push o)[b]? = w.heap[b]?
  rw [Array.getElem?_push, if_neg (by omega)]

theorem alloc_new (w : World) (o : Obj) : (w.alloc o).heap[w.heap.size]? = some o := by
  show (w.heap.push o)[w.heap.size]? = some o
  rw [Array.getElem?_push, if_pos rfl]

theorem alloc_size (w : World) (o : Obj) : (w.alloc o).heap.size = w.heap.size + 1 := by
  show (w.heap.push o).size = _
  rw [Array.size_push]

theorem frozen_alloc (w : World) (c : Array Value) (t : TypeId) (a : Addr) : (w.alloc (.cells c t)).frozen? a = w.frozen? a := by
  unfold World.frozen?
  rcases Nat.lt_trichotomy a.block w.heap.size with h | h | h
  · rw [alloc_heap w _ _ h]
  · rw [h, alloc_new, Array.getElem?_eq_none (Nat.le_refl _)]
    simp
  · rw [Array.getElem?_eq_none (by rw [alloc_size]; omega), Array.getElem?_eq_none (by omega)]

theorem Kept.alloc (own : Nat → Prop) (w : World) (c : Array Value) (t : TypeId) : Kept own w (w.alloc (.cells c t)) :=
  ⟨by rw [alloc_size]; omega, fun b hb _ => alloc_heap w _ b hb, fun b arr T fz h => ⟨arr, T, fz, by
    rw [alloc_heap w _ b (Array.getElem?_eq_some_iff.1 h).1]; exact h, rfl⟩, rfl, rfl, frozen_alloc w c t⟩

theorem Kept.setRow {own : Nat → Prop} {w : World} {g : Nat} {old cs : Array Value} {T : TypeId} {fz : Nat × Nat} (hg : w.heap[g]? = some (.cells old T fz)) (hs : cs.size = old.size) (ho : own g) : Kept own w (w.setRow g cs) :=
  ⟨by simp, fun b _ hn => setRow_other w g b cs (fun e => hn (e ▸ ho)), fun b arr T' fz' h => by
    by_cases hb : b = g
    · subst hb
      rw [hg] at h
      simp only [Option.some.injEq, Obj.cells.injEq] at h
      obtain ⟨rfl, rfl, rfl⟩ := h
      exact ⟨cs, T, fz, setRow_heap w b _ cs _ _ hg, hs⟩
    · exact ⟨arr, T', fz', by rw [setRow_other w g b cs hb]; exact h, rfl⟩, rfl, rfl, fun a => by
    unfold World.frozen?
    by_cases hb : a.block = g
    · rw [hb, setRow_heap w g _ cs _ _ hg, hg]
    · rw [setRow_other w g _ cs hb]⟩

section
variable {ρ ρ' : Rho} {own : Nat → Prop} {get : Nat → Nat → Blk} {w w' : World}

theorem MemRel.world (h : MemRel ρ own get w) (e : w'.heap = w.heap) : MemRel ρ own get w' :=
  ⟨fun a k rw_ gs hg => by obtain ⟨p, fz, h1, h2, h3⟩ := h.holds a k rw_ gs hg; exact ⟨p, fz, h1, h2.world (by rw [e]), h3⟩, h.apart,
   fun a k p hp => by rw [e]; exact h.there a k p hp, h.rws⟩

/-- A block of one's own is written. -/
theorem MemRel.write {a k : Nat} {gs gs' : Segs} {p : Nat × Nat × Nat} {old cs : Array Value} {T : TypeId} (h : MemRel ρ own get w) (hg : get a k = .lv true gs) (hp : ρ a k = some p)
    (hh : w.heap[p.1]? = some (.cells old T (0, 0))) (hs : cs.size = old.size) (hH : Holds ρ (w.setRow p.1 cs) p gs' (0, 0)) : MemRel ρ own (fupd get (a, k) (.lv true gs')) (w.setRow p.1 cs) := by
  obtain ⟨p0, fz, e1, e2, e3, _⟩ := h.holds a k true gs hg
  rw [hp] at e1
  obtain rfl := Option.some.inj e1
  obtain ⟨rfl, ho⟩ := e3 rfl
  refine ⟨fun a' k' rw_ gs2 hg2 => ?_, fun a1 k1 a2 k2 g1 g2 p1 p2 x1 x2 => ?_, fun a' k' q hq => ?_, fun a' k' rw_ gs2 ha hg2 => ?_⟩
  · simp only [fupd] at hg2
    split at hg2
    · rename_i hc
      obtain ⟨rfl, rfl⟩ := hc
      simp only [Blk.lv.injEq] at hg2
      obtain ⟨rfl, rfl⟩ := hg2
      exact ⟨p, (0, 0), hp, hH, fun _ => ⟨rfl, ho⟩, fun hf => by cases hf⟩
    · rename_i hc
      obtain ⟨q, fz, f1, f2, f3, f4⟩ := h.holds a' k' rw_ gs2 hg2
      refine ⟨q, fz, f1, f2.world (setRow_other w _ _ _ ?_), f3, f4⟩
      intro e
      cases rw_ with
      | true => exact hc ((h.apart a' k' a k gs2 gs q p hg2 hg f1 hp e).imp Eq.symm Eq.symm)
      | false => exact f4 rfl (e ▸ ho)
  · intro y1 y2 e
    simp only [fupd] at x1 x2
    split at x1 <;> split at x2
    · rename_i c1 c2; exact ⟨c1.1.symm.trans c2.1, c1.2.symm.trans c2.2⟩
    · rename_i c1 c2; obtain ⟨rfl, rfl⟩ := c1; exact h.apart _ _ _ _ gs g2 p1 p2 hg x2 y1 y2 e
    · rename_i c1 c2; obtain ⟨rfl, rfl⟩ := c2; exact h.apart _ _ _ _ g1 gs p1 p2 x1 hg y1 y2 e
    · exact h.apart _ _ _ _ g1 g2 p1 p2 x1 x2 y1 y2 e
  · obtain ⟨arr, T', fz', f1, f2⟩ := h.there a' k' q hq
    by_cases e : q.1 = p.1
    · rw [e] at f1 ⊢
      rw [hh] at f1
      simp only [Option.some.injEq, Obj.cells.injEq] at f1
      obtain ⟨rfl, rfl, rfl⟩ := f1
      exact ⟨cs, T, (0, 0), setRow_heap w _ _ cs _ _ hh, hs.trans f2⟩
    · exact ⟨arr, T', fz', by rw [setRow_other w _ _ _ e]; exact f1, f2⟩
  · simp only [fupd] at hg2
    split at hg2
    · simp only [Blk.lv.injEq] at hg2; exact hg2.1.symm
    · exact h.rws a' k' rw_ gs2 ha hg2

/-- ρ with one more name. -/
def more (ρ : Rho) (n j : Nat) (p : Nat × Nat × Nat) : Rho := fun a k => if a = n ∧ k = j then some p else ρ a k

theorem Le.more {n j : Nat} {p : Nat × Nat × Nat} (h : ρ n j = none) : Le ρ (more ρ n j p) := by
  intro a k q hq
  simp only [Abs.more]
  split
  · rename_i hc; obtain ⟨rfl, rfl⟩ := hc; rw [h] at hq; cases hq
  · exact hq

/-- A name for a block of one's own that no live name names. -/
theorem MemRel.name {n : Nat} {gs : Segs} {p : Nat × Nat × Nat} (h : MemRel ρ own get w) (hn : ρ n 0 = none) (hnz : n ≠ 0)
    (hfree : ∀ a k gs' q, get a k = .lv true gs' → ρ a k = some q → q.1 ≠ p.1) (ho : own p.1)
    (hH : Holds (more ρ n 0 p) w p gs (0, 0)) : MemRel (more ρ n 0 p) own (fupd get (n, 0) (.lv true gs)) w := by
  have hle := Le.more (p := p) hn
  have hself : more ρ n 0 p n 0 = some p := by simp [more]
  have hother : ∀ a k, ¬ (n = a ∧ 0 = k) → more ρ n 0 p a k = ρ a k := by
    intro a k hc
    simp only [more]
    rw [if_neg]
    rintro ⟨rfl, rfl⟩
    exact hc ⟨rfl, rfl⟩
  refine ⟨fun a' k' rw_ gs2 hg2 => ?_, fun a1 k1 a2 k2 g1 g2 p1 p2 x1 x2 => ?_, fun a' k' q hq => ?_, fun a' k' rw_ gs2 ha hg2 => ?_⟩
  · simp only [fupd] at hg2
    split at hg2
    · rename_i hc
      obtain ⟨rfl, rfl⟩ := hc
      simp only [Blk.lv.injEq] at hg2
      obtain ⟨rfl, rfl⟩ := hg2
      exact ⟨p, (0, 0), hself, hH, fun _ => ⟨rfl, ho⟩, fun hf => by cases hf⟩
    · obtain ⟨q, fz, f1, f2, f3, f4⟩ := h.holds a' k' rw_ gs2 hg2
      exact ⟨q, fz, hle _ _ _ f1, f2.mono hle, f3, f4⟩
  · intro y1 y2 e
    simp only [fupd] at x1 x2
    split at x1 <;> split at x2
    · rename_i c1 c2; exact ⟨c1.1.symm.trans c2.1, c1.2.symm.trans c2.2⟩
    · rename_i c1 c2
      obtain ⟨rfl, rfl⟩ := c1
      rw [hself] at y1
      obtain rfl := Option.some.inj y1
      rw [hother _ _ c2] at y2
      exact absurd e.symm (hfree _ _ _ _ x2 y2)
    · rename_i c1 c2
      obtain ⟨rfl, rfl⟩ := c2
      rw [hself] at y2
      obtain rfl := Option.some.inj y2
      rw [hother _ _ c1] at y1
      exact absurd e (hfree _ _ _ _ x1 y1)
    · rename_i c1 c2
      rw [hother _ _ c1] at y1
      rw [hother _ _ c2] at y2
      exact h.apart _ _ _ _ g1 g2 p1 p2 x1 x2 y1 y2 e
  · by_cases hc : n = a' ∧ 0 = k'
    · obtain ⟨rfl, rfl⟩ := hc
      rw [hself] at hq
      obtain rfl := Option.some.inj hq
      obtain ⟨arr, T, pre, l, post, f1, _, _, f4, _⟩ := hH
      exact ⟨arr, T, (0, 0), f1, f4⟩
    · rw [hother _ _ hc] at hq
      exact h.there a' k' q hq
  · simp only [fupd] at hg2
    split at hg2
    · simp only [Blk.lv.injEq] at hg2; exact hg2.1.symm
    · exact h.rws a' k' rw_ gs2 ha hg2

theorem MemRel.alloc (h : MemRel ρ own get w) (o : Obj) : MemRel ρ own get (w.alloc o) := by
  refine ⟨fun a k rw_ gs hg => ?_, h.apart, fun a k p hp => ?_, h.rws⟩
  · obtain ⟨p, fz, h1, h2, h3⟩ := h.holds a k rw_ gs hg
    obtain ⟨arr, T, fz', h4, _⟩ := h.there a k p h1
    exact ⟨p, fz, h1, h2.world (alloc_heap w o _ (Array.getElem?_eq_some_iff.1 h4).1), h3⟩
  · obtain ⟨arr, T, fz', h4, h5⟩ := h.there a k p hp
    exact ⟨arr, T, fz', by rw [alloc_heap w o _ (Array.getElem?_eq_some_iff.1 h4).1]; exact h4, h5⟩

/-- A new block under a new name. -/
theorem MemRel.new {n : Nat} {gs : Segs} {arr : Array Value} {T : TypeId} {l post : List Value} (h : MemRel ρ own get w) (hn : ρ n 0 = none) (hnz : n ≠ 0) (ho : own w.heap.size)
    (harr : arr.toList = l ++ post) (hr : RelSegs ρ 0 gs l) :
    MemRel (more ρ n 0 (w.heap.size, 0, arr.size)) own (fupd get (n, 0) (.lv true gs)) (w.alloc (.cells arr T (0, 0))) := by
  refine MemRel.name (h.alloc _) hn hnz (fun a k gs' q hg hq e => ?_) ho ?_
  · obtain ⟨arr', T', fz', h4, _⟩ := h.there a k q hq
    have := (Array.getElem?_eq_some_iff.1 h4).1
    have e' : q.1 = w.heap.size := e
    omega
  · exact ⟨arr, T, [], l, post, alloc_new w _, by simpa using harr, rfl, rfl, hr.mono (Le.more hn)⟩

/-- A name is struck. -/
theorem MemRel.kill {a k : Nat} (h : MemRel ρ own get w) : MemRel ρ own (fupd get (a, k) .dead) w := by
  refine ⟨fun a' k' rw_ gs hg => ?_, fun a1 k1 a2 k2 g1 g2 p1 p2 x1 x2 => ?_, h.there, fun a' k' rw_ gs ha hg => ?_⟩
  · simp only [fupd] at hg
    split at hg
    · cases hg
    · exact h.holds a' k' rw_ gs hg
  · simp only [fupd] at x1 x2
    split at x1
    · cases x1
    · split at x2
      · cases x2
      · exact h.apart a1 k1 a2 k2 g1 g2 p1 p2 x1 x2
  · simp only [fupd] at hg
    split at hg
    · cases hg
    · exact h.rws a' k' rw_ gs ha hg
end

/-! ### cells of a block -/

theorem holds_cell {ρ : Rho} {w : World} {p : Nat × Nat × Nat} {gs : Segs} {fz : Nat × Nat} (h : Holds ρ w p gs fz) :
    ∃ arr T l, w.heap[p.1]? = some (.cells arr T fz) ∧ RelSegs ρ 0 gs l ∧ p.2.1 + l.length ≤ arr.size ∧ (∀ j v, l[j]? = some v → w.cell? ⟨p.1, p.2.1 + j, none⟩ = some v) := by
  obtain ⟨arr, T, pre, l, post, h1, h2, h3, h4, h5⟩ := h
  have hs : arr.size = pre.length + l.length + post.length := by rw [← Array.length_toList, h2]; simp; omega
  refine ⟨arr, T, l, h1, h5, by omega, fun j v hv => ?_⟩
  have hj : j < l.length := (List.getElem?_eq_some_iff.1 hv).1
  rw [cell_of_row w p.1 _ arr T fz h1, ← Array.getElem?_toList, h2, List.append_assoc, List.getElem?_append_right (by omega), List.getElem?_append_left (by omega), ← hv]
  congr 1
  omega

theorem holds_over {ρ : Rho} {w : World} {p : Nat × Nat × Nat} {gs : Segs} {at_ : Nat} {l' : List Value} {K : Segs → Prop} (h : Holds ρ w p gs (0, 0))
    (hk : ∀ l, RelSegs ρ 0 gs l → ∃ gs', K gs' ∧ at_ + l'.length ≤ l.length ∧ RelSegs ρ 0 gs' (over l at_ l')) :
    ∃ gs' old T cs, K gs' ∧ w.heap[p.1]? = some (.cells old T (0, 0)) ∧ p.2.1 + at_ + l'.length ≤ old.size ∧
      cs = (old.toList.take (p.2.1 + at_) ++ l' ++ old.toList.drop (p.2.1 + at_ + l'.length)).toArray ∧ cs.size = old.size ∧ Holds ρ (w.setRow p.1 cs) p gs' (0, 0) := by
  obtain ⟨arr, T, pre, l, post, h1, h2, h3, h4, h5⟩ := h
  have hs : arr.size = pre.length + l.length + post.length := by rw [← Array.length_toList, h2]; simp; omega
  obtain ⟨gs', hK, hb, hr⟩ := hk l h5
  refine ⟨gs', arr, T, _, hK, h1, by omega, rfl, ?_⟩
  have hsz : (arr.toList.take (p.2.1 + at_) ++ l' ++ arr.toList.drop (p.2.1 + at_ + l'.length)).length = arr.size := by simp; omega
  refine ⟨by simpa using hsz, _, T, pre, over l at_ l', post, setRow_heap w _ _ _ _ _ h1, ?_, h3, ?_, hr⟩
  · simp only [h2, over, ← h3]
    rw [List.append_assoc pre, List.take_length_add_append, Nat.add_assoc, List.drop_length_add_append, List.take_append_of_le_length (by omega), List.drop_append_of_le_length (by omega)]
    simp
  · rw [List.size_toArray, hsz]; exact h4

/-! ### what the model's small programs come to -/

section
variable {P : Program} {w : World}

theorem szOf_pos {t : TypeId} (h : 0 < szOf P t) : ∃ i, P.info? t = some i ∧ i.size = szOf P t := by
  unfold szOf at *
  cases hq : P.info? t with
  | none => simp [hq] at h
  | some i => exact ⟨i, rfl, by simp⟩

theorem run_sizeOf {t : TypeId} (h : (P.info? t).isSome = true) : (sizeOf t).run P w = .ok (szOf P t) w := by
  cases hq : P.info? t with
  | none => simp [hq] at h
  | some i => simp [sizeOf, typeInfo, hq, szOf]

theorem isSome_of_pos {t : TypeId} (h : 0 < szOf P t) : (P.info? t).isSome = true := by
  obtain ⟨i, hi, _⟩ := szOf_pos h; simp [hi]

theorem tyOf_arr {t n esz sz : Nat} (h : tyOf P t = .arr n esz sz) : ∃ e, P.underlying t = some (.array n e) ∧ esz = szOf P e ∧ sz = szOf P t := by
  unfold tyOf at h
  split at h <;> simp_all
theorem tyOf_st {t sz : Nat} {offs : List (Nat × Nat)} (h : tyOf P t = .st offs sz) : ∃ fs, P.underlying t = some (.struct fs) ∧ offs = fs.toList.map (fun f => (f.offset, szOf P f.type)) ∧ sz = szOf P t := by
  unfold tyOf at h
  split at h <;> simp_all
theorem tyOf_sl {t esz bytes : Nat} (h : tyOf P t = .sl esz bytes) : ∃ e, P.underlying t = some (.slice e) ∧ esz = szOf P e ∧ bytes = bytesOf P e ∧ elOf P t = e := by
  unfold tyOf at h
  split at h <;> simp_all [elOf]
theorem tyOf_str {t : Nat} (h : tyOf P t = .str) : P.underlying t = some .string := by
  unfold tyOf at h
  split at h <;> simp_all
theorem tyOf_int {t : Nat} {k : IntKind} (h : tyOf P t = .int k) : P.underlying t = some (.int k) := by
  unfold tyOf at h
  split at h <;> simp_all

theorem isAgg_false {t : TypeId} (h : match tyOf P t with | .arr .. | .st .. | .other => False | _ => True) : (isAgg t).run P w = .ok false w := by
  unfold tyOf at h
  unfold isAgg
  cases hu : P.underlying t with
  | none => simp [hu] at h
  | some d =>
    rw [Sem.run_bind, run_underlying hu w]
    cases d <;> simp [hu] at h <;> rfl

theorem isAgg_true {t : TypeId} (h : match tyOf P t with | .arr .. | .st .. => True | _ => False) : (isAgg t).run P w = .ok true w := by
  unfold tyOf at h
  unfold isAgg
  cases hu : P.underlying t with
  | none => simp [hu] at h
  | some d =>
    rw [Sem.run_bind, run_underlying hu w]
    cases d <;> simp [hu] at h <;> rfl

theorem addr_add (b o j : Nat) : (⟨b, o, none⟩ : Addr).add j = ⟨b, o + j, none⟩ := by unfold Addr.add; split <;> simp_all

theorem run_loadVar_agg {t : TypeId} {b o : Nat} {l : List Value} (h : match tyOf P t with | .arr .. | .st .. => True | _ => False) (hs : 0 < szOf P t) (hl : l.length = szOf P t)
    (hc : ∀ j v, l[j]? = some v → w.cell? ⟨b, o + j, none⟩ = some v) : (loadVar t ⟨b, o, none⟩).run P w = .ok (.agg l.toArray) w := by
  have h1 := run_loadCells_list (P := P) w ⟨b, o, none⟩ l (fun j v hv => by rw [addr_add]; exact hc j v hv)
  simp [loadVar, isAgg_true h, run_sizeOf (isSome_of_pos hs), ← hl, h1]

theorem run_loadVar_one {t : TypeId} {a : Addr} {v : Value} (h : match tyOf P t with | .arr .. | .st .. | .other => False | _ => True)
    (hc : w.cell? a = some v) : (loadVar t a).run P w = .ok v w := by
  simp [loadVar, isAgg_false h, hc]

theorem run_storeVar_at {t : TypeId} {b o : Nat} {v : Value} {old : Array Value} {T : TypeId} (hi : (P.info? t).isSome = true) (hs : v.cells.size = szOf P t) (hh : w.heap[b]? = some (.cells old T (0, 0)))
    (hb : o + v.cells.size ≤ old.size) (h1 : ∀ x ∈ v.cells.toList, x.oneCell' = true) :
    (storeVar t ⟨b, o, none⟩ v).run P w = .ok () (w.setRow b (old.toList.take o ++ v.cells.toList ++ old.toList.drop (o + v.cells.toList.length)).toArray) := by
  have := run_storeCells_at P b o T v.cells.toList 0 old w hh (by simpa using hb) h1
  simp only [Nat.add_zero] at this
  simp [storeVar, run_sizeOf hi, hs, this]

theorem run_zeroValue {t : TypeId} {z : Value} (h : (P.info? t).bind (·.zero) = some z) : (zeroValue t).run P w = .ok z w := by
  cases hq : P.info? t with
  | none => simp [hq] at h
  | some i =>
    simp only [hq, Option.bind_some] at h
    simp [zeroValue, typeInfo, hq, h]

theorem run_newVar (t : TypeId) (v : Value) : (newVar t v).run P w = .ok ⟨w.heap.size, 0, none⟩ (w.alloc (.cells v.cells t (0, 0))) := by
  rfl
end

theorem intsOf_sound {k : IntKind} : ∀ {vs : List Value} {xs : List Int}, intsOf k vs = some xs → vs = xs.map (Value.int k)
  | [], xs, h => by simp [intsOf] at h; subst h; rfl
  | v :: r, xs, h => by
    cases v <;> simp [intsOf] at h
    obtain ⟨rfl, ys, hy, rfl⟩ := h
    simp [intsOf_sound hy]

theorem boolsOf_sound : ∀ {vs : List Value} {xs : List Bool}, boolsOf vs = some xs → vs = xs.map Value.bool
  | [], xs, h => by simp [boolsOf] at h; subst h; rfl
  | v :: r, xs, h => by
    cases v <;> simp [boolsOf] at h
    obtain ⟨ys, hy, rfl⟩ := h
    simp [boolsOf_sound hy]

theorem atomOf_sound {ρ : Rho} {v : Value} {a : Atom} (h : atomOf v = some a) : RelAt ρ a v := by
  unfold atomOf at h
  split at h <;> simp at h <;> subst h <;> rfl

theorem atomsOf_sound {ρ : Rho} : ∀ {vs : List Value} {xs : List Atom}, atomsOf vs = some xs → RelAts ρ xs vs
  | [], xs, h => by simp [atomsOf] at h; subst h; rfl
  | v :: r, xs, h => by
    simp only [atomsOf] at h
    split at h
    · rename_i a l ha hl
      simp at h
      subst h
      exact ⟨v, r, rfl, atomOf_sound ha, atomsOf_sound hl⟩
    · simp at h

theorem segsOf_sound {ρ : Rho} : ∀ {lay : List (Nat × Lk)} {s : Nat} {vs : List Value} {gs : Segs}, segsOf s lay vs = some gs → RelSegs ρ s gs vs
  | [], s, vs, gs, h => by
    cases vs with
    | nil => simp [segsOf] at h; subst h; rfl
    | cons v r => simp [segsOf] at h
  | (n, k) :: r, s, vs, gs, h => by
    simp only [segsOf] at h
    split at h
    · rename_i hn
      split at h
      · rename_i g gs' hg hgs
        simp at h
        subst h
        have hr : RelSg ρ g (vs.take n) ∧ g.len = n := by
          cases k <;> simp [segOf] at hg
          · obtain ⟨xs, hx, rfl⟩ := hg
            have := intsOf_sound hx
            exact ⟨⟨by rw [← hn, this]; simp, this⟩, rfl⟩
          · obtain ⟨xs, hx, rfl⟩ := hg
            have := boolsOf_sound hx
            exact ⟨⟨by rw [← hn, this]; simp, this⟩, rfl⟩
          · obtain ⟨xs, hx, rfl⟩ := hg
            have := atomsOf_sound (ρ := ρ) hx
            exact ⟨⟨by rw [← hn, this.length], this⟩, rfl⟩
        refine ⟨rfl, vs.take n, vs.drop n, (List.take_append_drop _ _).symm, hr.1, ?_⟩
        rw [hr.2]
        exact segsOf_sound hgs
      · simp at h
    · simp at h

theorem zeroOf_sound {P : Program} {t : TypeId} {gs : Segs} (h : zeroOf P t = some gs) : ∃ z, (P.info? t).bind (·.zero) = some z ∧ ∀ ρ : Rho, RelSegs ρ 0 gs z.cells.toList := by
  unfold zeroOf at h
  split at h
  · rename_i z hz
    exact ⟨z, hz, fun ρ => segsOf_sound h⟩
  · simp at h

end Go.Abs

/-
Equality of structs and arrays that are built of integers and truths.
-/
namespace Go.Abs
open Go
set_option linter.unusedVariables false
set_option linter.unusedSectionVars false
set_option linter.unusedSimpArgs false
set_option linter.defProp false

attribute [local instance low] Classical.propDecidable

variable {P : Program} (w : World)

def KdV : Kd → Value → Prop
  | .int k, v => ∃ n, v = .int k n
  | .bool, v => ∃ b, v = .bool b

def KdVs : List Kd → List Value → Prop
  | [], l => l = []
  | k :: r, l => ∃ v l', l = v :: l' ∧ KdV k v ∧ KdVs r l'

theorem KdVs.length : ∀ {ks : List Kd} {l : List Value}, KdVs ks l → l.length = ks.length
  | [], l, h => by simp only [KdVs] at h; subst h; rfl
  | k :: r, l, h => by obtain ⟨v, l', rfl, _, h⟩ := h; simp [h.length]

theorem KdVs.split : ∀ {ks ks' : List Kd} {l : List Value}, KdVs (ks ++ ks') l → ∃ l1 l2, l = l1 ++ l2 ∧ KdVs ks l1 ∧ KdVs ks' l2
  | [], ks', l, h => ⟨[], l, rfl, rfl, h⟩
  | k :: r, ks', l, h => by
    obtain ⟨v, l', rfl, hv, h⟩ := h
    obtain ⟨l1, l2, rfl, h1, h2⟩ := h.split
    exact ⟨v :: l1, l2, rfl, ⟨v, l1, rfl, hv, h1⟩, h2⟩

theorem KdVs.append : ∀ {ks ks' : List Kd} {l l' : List Value}, KdVs ks l → KdVs ks' l' → KdVs (ks ++ ks') (l ++ l')
  | [], ks', l, l', h, h' => by simp only [KdVs] at h; subst h; exact h'
  | k :: r, ks', l, l', h, h' => by obtain ⟨v, l1, rfl, hv, h⟩ := h; exact ⟨v, l1 ++ l', rfl, hv, h.append h'⟩

def isAggD : Option TypeDesc → Bool
  | some (.array ..) | some (.struct ..) => true
  | _ => false

def Fits (P : Program) (t : TypeId) (v : Value) (xs : List Value) : Prop := if isAggD (P.underlying t) then v = .agg xs.toArray else xs = [v]

theorem run_part_fit {e : TypeId} {kd : TypeDesc} {arr : Array Value} {pre c post : List Value} {off : Nat} (hu : P.underlying e = some kd) (ha : arr.toList = pre ++ c ++ post) (hp : pre.length = off) (hi : (P.info? e).isSome = true) (hc : szOf P e = c.length)
    (h1 : isAggD (P.underlying e) = false → ∃ v, c = [v]) : ∃ v, (part e arr off).run P w = .ok v w ∧ Fits P e v c := by
  have hx : (arr.extract off (off + c.length)) = c.toArray := by
    apply Array.ext'
    rw [Array.toList_extract, ha]
    subst hp
    simp [List.extract]
  by_cases hg : isAggD (P.underlying e) = true
  · refine ⟨.agg c.toArray, ?_, by simp [Fits, hg]⟩
    rw [hu] at hg
    cases kd <;> simp [isAggD] at hg <;> simp [part, isAgg, run_underlying hu, run_sizeOf hi, hc, hx]
  · have hg' : isAggD (P.underlying e) = false := by simpa using hg
    obtain ⟨v, rfl⟩ := h1 hg'
    refine ⟨v, ?_, by simp [Fits, hg]⟩
    have hv : arr[off]? = some v := by
      rw [← Array.getElem?_toList, ha]
      subst hp
      simp
    rw [hu] at hg'
    cases kd <;> simp [isAggD] at hg' <;> simp [part, isAgg, run_underlying hu, hv]

def EqT (P : Program) (dd : Nat) (t : TypeId) (ks : List Kd) : Prop :=
  ∀ (w : World) (x y : Value) (xs ys : List Value), KdVs ks xs → KdVs ks ys → Fits P t x xs → Fits P t y ys → (Op.equalIn dd t x y).run P w = .ok (decide (xs = ys)) w

theorem kds_scalar {d : Nat} {t : TypeId} {ks : List Kd} (h : kds P d t = some ks) : (∃ kd, P.underlying t = some kd) ∧ (isAggD (P.underlying t) = false → ∀ c, KdVs ks c → ∃ v, c = [v]) := by
  cases d with
  | zero => simp [kds] at h
  | succ d =>
    unfold kds at h
    split at h
    · rename_i k hu
      cases h
      refine ⟨⟨_, hu⟩, fun _ c hc => ?_⟩
      obtain ⟨v, l, rfl, _, rfl⟩ := hc
      exact ⟨v, rfl⟩
    · rename_i hu
      cases h
      refine ⟨⟨_, hu⟩, fun _ c hc => ?_⟩
      obtain ⟨v, l, rfl, _, rfl⟩ := hc
      exact ⟨v, rfl⟩
    · rename_i n e hu
      exact ⟨⟨_, hu⟩, fun hg => by rw [hu] at hg; simp [isAggD] at hg⟩
    · rename_i fs hu
      exact ⟨⟨_, hu⟩, fun hg => by rw [hu] at hg; simp [isAggD] at hg⟩
    · cases h

theorem app_dec {a b c d : List Value} (h : a.length = b.length) : decide (a ++ c = b ++ d) = (decide (a = b) && decide (c = d)) := by
  by_cases h1 : a = b
  · subst h1
    simp
  · have : ¬ (a ++ c = b ++ d) := fun e => h1 (List.append_inj e h).1
    simp [h1, this]

theorem run_items {dd : Nat} {e : TypeId} {ks : List Kd} (IH : EqT P dd e ks) (hk : ∃ d, kds P d e = some ks) (hi : (P.info? e).isSome = true) (hs : szOf P e = ks.length) (ax ay : Array Value) :
    ∀ (n i : Nat) (prex prey xs ys : List Value), KdVs (repl ks n) xs → KdVs (repl ks n) ys → ax.toList = prex ++ xs → ay.toList = prey ++ ys → prex.length = i * ks.length → prey.length = i * ks.length →
      (Op.eqItems dd e ks.length ax ay (List.range' i n)).run P w = .ok (decide (xs = ys)) w
  | 0, i, prex, prey, xs, ys, hx, hy, _, _, _, _ => by
    simp only [repl, KdVs] at hx hy
    subst hx; subst hy
    simp [Op.eqItems]
  | n + 1, i, prex, prey, xs, ys, hx, hy, ex, ey, lx, ly => by
    obtain ⟨x1, x2, rfl, hx1, hx2⟩ := KdVs.split (show KdVs (ks ++ repl ks n) xs from hx)
    obtain ⟨y1, y2, rfl, hy1, hy2⟩ := KdVs.split (show KdVs (ks ++ repl ks n) ys from hy)
    obtain ⟨d, hd⟩ := hk
    obtain ⟨⟨kd, hu⟩, h1⟩ := kds_scalar hd
    obtain ⟨a, pa, fa⟩ := run_part_fit w (pre := prex) (c := x1) (post := x2) hu (by simpa using ex) lx hi (by rw [hs, hx1.length]) (fun hg => h1 hg _ hx1)
    obtain ⟨b, pb, fb⟩ := run_part_fit w (pre := prey) (c := y1) (post := y2) hu (by simpa using ey) ly hi (by rw [hs, hy1.length]) (fun hg => h1 hg _ hy1)
    have he := IH w a b x1 y1 hx1 hy1 fa fb
    have ih := run_items IH ⟨d, hd⟩ hi hs ax ay n (i + 1) (prex ++ x1) (prey ++ y1) x2 y2 hx2 hy2 (by simpa using ex) (by simpa using ey) (by simp [lx, hx1.length, Nat.succ_mul]) (by simp [ly, hy1.length, Nat.succ_mul])
    rw [List.range'_succ]
    simp only [Op.eqItems, Sem.run_bind, pa, pb, he, Result.andThen_ok]
    rw [app_dec (by rw [hx1.length, hy1.length])]
    by_cases hxy : x1 = y1
    · simp [hxy, ih]
    · simp [hxy]

theorem run_fields {dd d : Nat} (IH : ∀ t ks, kds P d t = some ks → EqT P dd t ks) (ax ay : Array Value) :
    ∀ (fs : List Field) (off : Nat) (ks : List Kd) (prex prey xs ys : List Value), kdsF P (kds P d) off fs = some ks → KdVs ks xs → KdVs ks ys → ax.toList = prex ++ xs → ay.toList = prey ++ ys → prex.length = off → prey.length = off →
      (Op.eqFields dd ax ay fs).run P w = .ok (decide (xs = ys)) w
  | [], off, ks, prex, prey, xs, ys, hk, hx, hy, _, _, _, _ => by
    simp only [kdsF, Option.some.injEq] at hk
    subst hk
    simp only [KdVs] at hx hy
    subst hx; subst hy
    simp [Op.eqFields]
  | f :: fs, off, ks, prex, prey, xs, ys, hk, hx, hy, ex, ey, lx, ly => by
    unfold kdsF at hk
    split at hk
    · rename_i l hl
      split at hk
      · rename_i hc
        obtain ⟨hn, ho, hi, hs⟩ := hc
        simp only [Option.map_eq_some_iff] at hk
        obtain ⟨r, hr, rfl⟩ := hk
        obtain ⟨x1, x2, rfl, hx1, hx2⟩ := KdVs.split hx
        obtain ⟨y1, y2, rfl, hy1, hy2⟩ := KdVs.split hy
        obtain ⟨⟨kd, hu⟩, h1⟩ := kds_scalar hl
        obtain ⟨a, pa, fa⟩ := run_part_fit w (off := f.offset) (pre := prex) (c := x1) (post := x2) hu (by simpa using ex) (by rw [lx, ho]) hi (by rw [hs, hx1.length]) (fun hg => h1 hg _ hx1)
        obtain ⟨b, pb, fb⟩ := run_part_fit w (off := f.offset) (pre := prey) (c := y1) (post := y2) hu (by simpa using ey) (by rw [ly, ho]) hi (by rw [hs, hy1.length]) (fun hg => h1 hg _ hy1)
        have he := IH _ _ hl w a b x1 y1 hx1 hy1 fa fb
        have ih := run_fields IH ax ay fs (off + l.length) r (prex ++ x1) (prey ++ y1) x2 y2 hr hx2 hy2 (by simpa using ex) (by simpa using ey) (by simp [lx, hx1.length]) (by simp [ly, hy1.length])
        simp only [Op.eqFields, hn, ne_eq, not_false_eq_true, if_true, Sem.run_bind, pa, pb, he, Result.andThen_ok]
        rw [app_dec (by rw [hx1.length, hy1.length])]
        by_cases hxy : x1 = y1
        · simp [hxy, ih]
        · simp [hxy]
      · cases hk
    · cases hk

theorem run_eqT : ∀ (d : Nat) (t : TypeId) (ks : List Kd), kds P d t = some ks → ∀ dd, EqT P (dd + d) t ks
  | 0, _, _, h => by simp [kds] at h
  | d + 1, t, ks, h => by
    intro dd w x y xs ys hx hy fx fy
    have h0 := h
    unfold kds at h
    split at h
    · rename_i k hu
      cases h
      obtain ⟨a, l, rfl, ⟨n, rfl⟩, hl⟩ := hx
      simp only [KdVs] at hl
      subst hl
      obtain ⟨b, l, rfl, ⟨m, rfl⟩, hl⟩ := hy
      simp only [KdVs] at hl
      subst hl
      simp [Fits, hu, isAggD] at fx fy
      subst fx; subst fy
      rw [show dd + (d + 1) = (dd + d) + 1 from rfl, run_equalIn_int w (dd + d) t k k n m hu]
      congr 1
      simp [BEq.beq]
    · rename_i hu
      cases h
      obtain ⟨a, l, rfl, ⟨n, rfl⟩, hl⟩ := hx
      simp only [KdVs] at hl
      subst hl
      obtain ⟨b, l, rfl, ⟨m, rfl⟩, hl⟩ := hy
      simp only [KdVs] at hl
      subst hl
      simp [Fits, hu, isAggD] at fx fy
      subst fx; subst fy
      rw [show dd + (d + 1) = (dd + d) + 1 from rfl, run_equalIn_bool w (dd + d) t n m hu]
      congr 1
      simp [BEq.beq]
    · rename_i n e hu
      split at h
      · rename_i l hl
        split at h
        · rename_i hc
          cases h
          simp [Fits, hu, isAggD] at fx fy
          subst fx; subst fy
          obtain ⟨i, hi⟩ := Option.isSome_iff_exists.1 hc.1
          have hcell : P.cellsOf e = l.length := by rw [← hc.2]; simp [Program.cellsOf, szOf, hi]
          rw [show dd + (d + 1) = (dd + d) + 1 from rfl, run_equalIn_array w (dd + d) _ _ hu hi, hcell, List.range_eq_range']
          exact run_items w (run_eqT d e l hl dd) ⟨d, hl⟩ hc.1 hc.2 _ _ n 0 [] [] xs ys hx hy (by simp) (by simp) (by simp) (by simp)
        · cases h
      · cases h
    · rename_i fs hu
      split at h
      · cases h
      · rename_i hp
        simp [Fits, hu, isAggD] at fx fy
        subst fx; subst fy
        have hfs : P.fieldsOf t = fs := by simp [Program.fieldsOf, hu]
        rw [show dd + (d + 1) = (dd + d) + 1 from rfl, run_equalIn_struct w (dd + d) t _ _ (by rw [hfs]; exact hu) (by simpa using hp), hfs]
        exact run_fields w (fun t ks hk => run_eqT d t ks hk dd) _ _ fs.toList 0 ks [] [] xs ys h hx hy (by simp) (by simp) (by simp) (by simp)
    · cases h

/-! ### from what the words say -/

theorem KdVs_ints (k : IntKind) : ∀ (xs : List Int), KdVs (List.replicate xs.length (.int k)) (xs.map (Value.int k))
  | [] => rfl
  | x :: r => ⟨_, _, rfl, ⟨x, rfl⟩, KdVs_ints k r⟩
theorem KdVs_bools : ∀ (xs : List Bool), KdVs (List.replicate xs.length .bool) (xs.map Value.bool)
  | [] => rfl
  | x :: r => ⟨_, _, rfl, ⟨x, rfl⟩, KdVs_bools r⟩

theorem map_int_inj {k : IntKind} : ∀ {xs ys : List Int}, xs.map (Value.int k) = ys.map (Value.int k) ↔ xs = ys
  | [], [] => by simp
  | [], _ :: _ => by simp
  | _ :: _, [] => by simp
  | x :: xs, y :: ys => by simp [map_int_inj (xs := xs)]
theorem map_bool_inj : ∀ {xs ys : List Bool}, xs.map Value.bool = ys.map Value.bool ↔ xs = ys
  | [], [] => by simp
  | [], _ :: _ => by simp
  | _ :: _, [] => by simp
  | x :: xs, y :: ys => by simp [map_bool_inj (xs := xs)]

theorem eqSegs_rel {ρ : Rho} : ∀ {gs hs : Segs} {s s' : Nat} {xs ys : List Value} {r : Bool}, eqSegs gs hs = some r → RelSegs ρ s gs xs → RelSegs ρ s' hs ys →
    KdVs (kdsSg (shapes gs)) xs ∧ KdVs (kdsSg (shapes gs)) ys ∧ r = decide (xs = ys)
  | [], [], s, s', xs, ys, r, h, hx, hy => by
    simp only [eqSegs, Option.some.injEq] at h
    simp only [RelSegs] at hx hy
    subst h; subst hx; subst hy
    exact ⟨rfl, rfl, by simp⟩
  | [], _ :: _, s, s', xs, ys, r, h, hx, hy => by simp [eqSegs] at h
  | _ :: _, [], s, s', xs, ys, r, h, hx, hy => by simp [eqSegs] at h
  | (st, g) :: gs, (st', g') :: hs, s, s', xs, ys, r, h, hx, hy => by
    unfold eqSegs at h
    split at h
    · rename_i b hb
      split at h
      · rename_i b' hb'
        simp only [Option.some.injEq] at h
        subst h
        obtain ⟨_, x1, x2, rfl, hx1, hx2⟩ := hx
        obtain ⟨_, y1, y2, rfl, hy1, hy2⟩ := hy
        obtain ⟨k1, k2, rfl⟩ := eqSegs_rel hb' hx2 hy2
        cases g with
        | ints k n as =>
          cases g' with
          | ints k' n' bs =>
            simp only [eqSg] at hb
            split at hb
            · rename_i hc
              obtain ⟨rfl, rfl⟩ := hc
              simp only [Option.some.injEq] at hb
              subst hb
              simp only [RelSg] at hx1 hy1
              obtain ⟨e1, rfl⟩ := hx1
              obtain ⟨e2, rfl⟩ := hy1
              refine ⟨?_, ?_, ?_⟩
              · simp only [shapes, kdsSg]; rw [← e1]; exact (KdVs_ints k as).append k1
              · simp only [shapes, kdsSg]; rw [← e2]; exact (KdVs_ints k bs).append k2
              · rw [app_dec (by simp [e1, e2])]; simp [map_int_inj]
            · cases hb
          | bools => simp [eqSg] at hb
          | cells => simp [eqSg] at hb
        | bools n as =>
          cases g' with
          | bools n' bs =>
            simp only [eqSg] at hb
            split at hb
            · rename_i hc
              subst hc
              simp only [Option.some.injEq] at hb
              subst hb
              simp only [RelSg] at hx1 hy1
              obtain ⟨e1, rfl⟩ := hx1
              obtain ⟨e2, rfl⟩ := hy1
              refine ⟨?_, ?_, ?_⟩
              · simp only [shapes, kdsSg]; rw [← e1]; exact (KdVs_bools as).append k1
              · simp only [shapes, kdsSg]; rw [← e2]; exact (KdVs_bools bs).append k2
              · rw [app_dec (by simp [e1, e2])]; simp [map_bool_inj]
            · cases hb
          | ints => simp [eqSg] at hb
          | cells => simp [eqSg] at hb
        | cells n as => simp [eqSg] at hb
      · cases h
    · cases h

theorem agg_eq {ρ : Rho} {t : TypeId} {gs hs : Segs} {xs ys : List Value} {r : Bool} (ht : eqTy P t (shapes gs) = true) (h : eqSegs gs hs = some r) (hx : RelSegs ρ 0 gs xs) (hy : RelSegs ρ 0 hs ys) :
    P.eqGuardType P.depth t = false ∧ (Op.equalIn 10000 t (.agg xs.toArray) (.agg ys.toArray)).run P w = .ok r w := by
  obtain ⟨k1, k2, rfl⟩ := eqSegs_rel h hx hy
  simp only [eqTy, Bool.and_eq_true, decide_eq_true_eq, Bool.not_eq_true'] at ht
  obtain ⟨⟨h1, h2⟩, h3⟩ := ht
  have hg : isAggD (P.underlying t) = true := by
    revert h3
    cases P.underlying t with
    | none => simp
    | some d => cases d <;> simp [isAggD]
  exact ⟨h2, run_eqT 6 t _ h1 9994 w _ _ xs ys k1 k2 (by simp [Fits, hg]) (by simp [Fits, hg])⟩
end Go.Abs

/-
What each operation of the model does to values and memory that read as the abstract words say: one law an operation.
-/
namespace Go.Abs
open Go
set_option linter.unusedVariables false
set_option linter.unusedSectionVars false
set_option linter.unusedSimpArgs false
set_option linter.defProp false

def RelE (ρ : Rho) (env : Env) (a : Act) : Prop := ∀ t, RelV ρ (lk env t) (a.tmps.getD t undef)

structure After (ρ : Rho) (own : Nat → Prop) (m : Mem) (ups : Ups) (v : AV) (w : World) (val : Value) (w' : World) (ρ' : Rho) : Prop where
  le : Le ρ ρ'
  only : ∀ a k, a ≠ m.next → ρ' a k = ρ a k
  val : RelV ρ' v val
  mem : MemRel ρ' own (fupds m.get ups) w'
  kept : Kept own w w'

structure Ctx (ρ : Rho) (own : Nat → Prop) (env : Env) (m : Mem) (a : Act) (w : World) : Prop where
  env : RelE ρ env a
  mem : MemRel ρ own m.get w
  fresh : ∀ k, ρ m.next k = none
  nz : m.next ≠ 0
  own : ∀ b, w.heap.size ≤ b → own b

/-- What an operation is asked to do. -/
def OpOk (P : Program) (ρ : Rho) (own : Nat → Prop) (m : Mem) (a : Act) (w : World) (o : Oper) (v : AV) (ups : Ups) : Prop :=
  (∀ x ∈ ups, x.1.1 = 0 → x.1.2 < m.args.length) ∧
  ∀ next Q, (∀ val w' ρ', After ρ own m ups v w val w' ρ' → next (a.put o.dst val) w') → o.wp P a w next Q

section
variable {P : Program} {ρ : Rho} {own : Nat → Prop} {env : Env} {m : Mem} {a : Act} {w : World}

theorem ofConst_sound (v : Value) : RelV ρ (ofConst v) v := by
  unfold ofConst
  split <;> simp [RelV, RelAt]

theorem aev_sound (h : RelE ρ env a) (x : Operand) : RelV ρ (aev env x) (a.eval x) := by
  cases x with
  | tmp t => exact h t
  | const v => exact ofConst_sound v
  | func f => simp only [aev, RelV, Act.eval]; exact ⟨[], rfl, rfl⟩
  | global g => simp [aev, RelV]

theorem After.pure {v : AV} {val : Value} (hM : MemRel ρ own m.get w) (hv : RelV ρ v val) : After ρ own m [] v w val w ρ :=
  ⟨Le.refl ρ, fun _ _ _ => rfl, hv, hM, Kept.refl own w⟩

theorem OpOk.value {o : Oper} {v : AV} {ups : Ups} {val : Value} {w' : World} {ρ' : Rho} (hu : ∀ x ∈ ups, x.1.1 = 0 → x.1.2 < m.args.length)
    (hr : (execOp a.eval o).run P w = .ok (.value val) w') (h : After ρ own m ups v w val w' ρ') : OpOk P ρ own m a w o v ups :=
  ⟨hu, fun next Q hn => by unfold Oper.wp; rw [hr]; exact hn val w' ρ' h⟩

theorem OpOk.skip {o : Oper} {ups : Ups} {w' : World} {ρ' : Rho} (hu : ∀ x ∈ ups, x.1.1 = 0 → x.1.2 < m.args.length)
    (hr : (execOp a.eval o).run P w = .ok .skip w') (h : After ρ own m ups .top w undef w' ρ') : OpOk P ρ own m a w o .top ups :=
  ⟨hu, fun next Q hn => by unfold Oper.wp; rw [hr]; exact hn undef w' ρ' h⟩

theorem OpOk.pure {o : Oper} {v : AV} {val : Value} (c : Ctx ρ own env m a w) (hr : (execOp a.eval o).run P w = .ok (.value val) w) (hv : RelV ρ v val) : OpOk P ρ own m a w o v [] :=
  OpOk.value (by simp) hr (After.pure c.mem hv)

theorem run_v {s : Sem Value} {val : Value} {w' : World} (h : s.run P w = .ok val w') : (do pure (Next.value (← s)) : Sem Next).run P w = .ok (.value val) w' := by
  simp [h]

theorem run_u {s : Sem Unit} {w' : World} (h : s.run P w = .ok () w') : (do s; pure Next.skip : Sem Next).run P w = .ok .skip w' := by
  simp [h]

/-! ### pure operations -/

theorem ok_unOp {o : Oper} {op : UnOp} {t : TypeId} {x : Operand} {K : AV → Prop} (c : Ctx ρ own env m a w) (ho : o.op = .unOp op t x) (hk : aun op (aev env x) K) :
    ∃ v, K v ∧ OpOk P ρ own m a w o v [] := by
  have hx := aev_sound c.env x
  unfold aun at hk
  split at hk
  · rename_i y e
    rw [e] at hx
    simp only [RelV] at hx
    exact ⟨_, hk, OpOk.pure (val := .bool !y) c (by simp only [execOp, ho]; exact run_v (by simp [hx, Op.unary])) (by simp [RelV])⟩
  · rename_i k n e
    rw [e] at hx
    simp only [RelV] at hx
    exact ⟨_, hk, OpOk.pure (val := .int k (k.wrap (0 - n))) c (by simp only [execOp, ho]; exact run_v (by simp [hx, Op.unary, Op.intArith])) (by simp [RelV])⟩
  · exact hk.elim

theorem intBin_sound {op : BinOp} {k : IntKind} {x y : Int} {t : TypeId} {K : AV → Prop} (hs : isShift op = false) (hk : intBin op k x y K) :
    ∃ v val, K v ∧ RelV ρ v val ∧ (binOp op t (.int k x) (.int k y)).run P w = .ok val w := by
  cases op <;> simp only [intBin, isShift] at hk hs
  case add => exact ⟨_, _, hk, rfl, by simp [binOp, Op.intArith]⟩
  case sub => exact ⟨_, _, hk, rfl, by simp [binOp, Op.intArith]⟩
  case mul => exact ⟨_, _, hk, rfl, by simp [binOp, Op.intArith]⟩
  case quo => exact ⟨_, _, hk.2, rfl, by simp [binOp, Op.intDiv, hk.1]⟩
  case rem => exact ⟨_, _, hk.2, rfl, by simp [binOp, Op.intDiv, hk.1]⟩
  case and => exact ⟨_, _, hk, rfl, by simp only [binOp, ne_eq, not_true_eq_false, if_false, Op.intBits]; rfl⟩
  case or => exact ⟨_, _, hk, rfl, by simp only [binOp, ne_eq, not_true_eq_false, if_false, Op.intBits]; rfl⟩
  case xor => exact ⟨_, _, hk, rfl, by simp only [binOp, ne_eq, not_true_eq_false, if_false, Op.intBits]; rfl⟩
  case andNot => exact ⟨_, _, hk, rfl, by simp only [binOp, ne_eq, not_true_eq_false, if_false, Op.intBits]; rfl⟩
  case eql => exact ⟨_, _, hk, rfl, by simp only [binOp, ne_eq, not_true_eq_false, if_false, Op.intCmp]; rfl⟩
  case neq => exact ⟨_, .bool (!decide (x = y)), hk, rfl, by simp [binOp, Op.intCmp, bne, BEq.beq]⟩
  case lss => exact ⟨_, _, hk, rfl, by simp [binOp, Op.intCmp]⟩
  case leq => exact ⟨_, _, hk, rfl, by simp [binOp, Op.intCmp]⟩
  case gtr => exact ⟨_, _, hk, rfl, by simp [binOp, Op.intCmp]⟩
  case geq => exact ⟨_, _, hk, rfl, by simp [binOp, Op.intCmp]⟩

theorem intShift_sound {op : BinOp} {k k' : IntKind} {x y : Int} {t : TypeId} {K : AV → Prop} (hk : intShift op k x y K) :
    ∃ v val, K v ∧ RelV ρ v val ∧ (binOp op t (.int k x) (.int k' y)).run P w = .ok val w := by
  cases op <;> simp only [intShift] at hk
  case shl =>
    have : ¬ y < 0 := by omega
    exact ⟨_, _, hk.2, rfl, by simp [binOp, Op.shift, this]⟩
  case shr =>
    have : ¬ y < 0 := by omega
    exact ⟨_, _, hk.2, rfl, by simp [binOp, Op.shift, this]⟩

theorem tyOf_bool {t : Nat} (h : tyOf P t = .bool) : P.underlying t = some .bool := by
  unfold tyOf at h
  split at h <;> simp_all

theorem run_eq_bool {t : TypeId} {x y : Bool} (h : P.underlying t = some .bool) : (Op.equal t (.bool x) (.bool y)).run P w = .ok (x == y) w :=
  run_equalIn_bool' (P := P) w 9999 t x y h

theorem ok_binOp {o : Oper} {op : BinOp} {t t' : TypeId} {x y : Operand} {K : AV → Prop} (c : Ctx ρ own env m a w) (ho : o.op = .binOp op t x y t') (hk : abin P op t (aev env x) (aev env y) K) :
    ∃ v, K v ∧ OpOk P ρ own m a w o v [] := by
  have hx := aev_sound c.env x
  have hy := aev_sound c.env y
  unfold abin at hk
  split at hk
  · rename_i k n k' n' e1 e2
    rw [e1] at hx
    rw [e2] at hy
    simp only [RelV] at hx hy
    have fin : ∀ v val, K v → RelV ρ v val → (binOp op t (.int k n) (.int k' n')).run P w = .ok val w → ∃ v, K v ∧ OpOk P ρ own m a w o v [] := by
      intro v val h1 h2 h3
      refine ⟨v, h1, OpOk.pure c ?_ h2⟩
      simp only [execOp, ho, hx, hy]
      exact run_v (by simp [eqGuard_at_int, h3])
    split at hk
    · obtain ⟨v, val, h1, h2, h3⟩ := intShift_sound (ρ := ρ) (P := P) (w := w) (k' := k') (t := t) hk
      exact fin v val h1 h2 h3
    · rename_i hs
      obtain ⟨rfl, hk⟩ := hk
      obtain ⟨v, val, h1, h2, h3⟩ := intBin_sound (ρ := ρ) (P := P) (w := w) (t := t) (by simpa using hs) hk
      exact fin v val h1 h2 h3
  · rename_i u v e1 e2
    rw [e1] at hx
    rw [e2] at hy
    simp only [RelV] at hx hy
    split at hk
    · obtain ⟨ht, hk⟩ := hk
      refine ⟨_, hk, OpOk.pure (val := .bool (u == v)) c ?_ (by simp [RelV])⟩
      simp only [execOp, ho, hx, hy]
      exact run_v (by simp [eqGuard_at_bool, binOp, run_eq_bool (tyOf_bool ht)])
    · obtain ⟨ht, hk⟩ := hk
      refine ⟨_, hk, OpOk.pure (val := .bool (!(u == v))) c ?_ (by simp [RelV])⟩
      simp only [execOp, ho, hx, hy]
      exact run_v (by simp [eqGuard_at_bool, binOp, run_eq_bool (tyOf_bool ht)])
    · exact hk.elim
  · rename_i gs hs e1 e2
    rw [e1] at hx
    rw [e2] at hy
    simp only [RelV] at hx hy
    obtain ⟨xs, hx, rx⟩ := hx
    obtain ⟨ys, hy, ry⟩ := hy
    split at hk
    · rename_i r hr
      obtain ⟨ht, hk⟩ := hk
      obtain ⟨h1, h2⟩ := agg_eq w ht hr rx ry
      refine ⟨_, hk, OpOk.pure (val := .bool r) c ?_ (by simp [RelV])⟩
      simp only [execOp, ho, hx, hy]
      exact run_v (by simp [run_eqGuard_agg w _ _ _ _ _ _ h1, run_eql_struct, h2])
    · rename_i r hr
      obtain ⟨ht, hk⟩ := hk
      obtain ⟨h1, h2⟩ := agg_eq w ht hr rx ry
      refine ⟨_, hk, OpOk.pure (val := .bool (!r)) c ?_ (by simp [RelV])⟩
      simp only [execOp, ho, hx, hy]
      exact run_v (by simp [run_eqGuard_agg w _ _ _ _ _ _ h1, run_neq_struct, h2])
    · exact hk.elim
  · exact hk.elim

theorem ok_convert {o : Oper} {s d : TypeId} {x : Operand} {K : AV → Prop} (c : Ctx ρ own env m a w) (ho : o.op = .convert s d x) (hk : aconvert P s d (aev env x) K) :
    ∃ v, K v ∧ OpOk P ρ own m a w o v [] := by
  have hx := aev_sound c.env x
  unfold aconvert at hk
  split at hk
  · rename_i k1 k2 k3 n e1 e2 e3
    rw [e3] at hx
    simp only [RelV] at hx
    refine ⟨_, hk, OpOk.pure (val := .int k2 (k2.wrap n)) c ?_ (by simp [RelV])⟩
    simp only [execOp, ho, hx]
    exact run_v (by simp [convert, run_underlying (tyOf_int e1), run_underlying (tyOf_int e2), Conv.intToInt])
  · exact hk.elim

theorem ok_pick {o : Oper} {c' x y : Operand} {g : Bool} (c : Ctx ρ own env m a w) (ho : o.op = .pick c' x y) (hg : aev env c' = .b g) :
    OpOk P ρ own m a w o (pickV g (aev env x) (aev env y)) [] := by
  have hc := aev_sound c.env c'
  have hx := aev_sound c.env x
  have hy := aev_sound c.env y
  rw [hg] at hc
  simp only [RelV] at hc
  refine OpOk.pure (val := if g then a.eval x else a.eval y) c ?_ ?_
  · simp only [execOp, ho, hc, asBool]
    simp
  · unfold pickV
    split
    · rename_i u v e1 e2
      rw [e1] at hx
      rw [e2] at hy
      simp only [RelV] at hx hy
      cases g <;> simp [RelV, hx, hy]
    · cases g <;> simp [hx, hy]

theorem ok_extract {o : Oper} {x : Operand} {j : Nat} {vs : List AV} {v : AV} (c : Ctx ρ own env m a w) (ho : o.op = .extract x j) (hx0 : aev env x = .tup vs) (hv : vs[j]? = some v) :
    OpOk P ρ own m a w o v [] := by
  have hx := aev_sound c.env x
  rw [hx0] at hx
  simp only [RelV] at hx
  obtain ⟨l, e, hr⟩ := hx
  have : ∀ (vs : List AV) (l : List Value) (j : Nat), RelVs ρ vs l → vs[j]? = some v → ∃ u, l[j]? = some u ∧ RelV ρ v u := by
    intro vs
    induction vs with
    | nil => intro l j _ h; simp at h
    | cons x r ih =>
      intro l j h h2
      simp only [RelVs] at h
      obtain ⟨u, l', rfl, hu, hr⟩ := h
      cases j with
      | zero => simp at h2; subst h2; exact ⟨u, rfl, hu⟩
      | succ j => exact ih l' j hr (by simpa using h2)
  obtain ⟨u, hu, hr⟩ := this vs l j hr hv
  refine OpOk.pure (val := u) c ?_ hr
  simp only [execOp, ho, e]
  exact run_v (by simp [Instr.extract, hu])

/-! ### addresses -/

theorem ok_fieldAddr {o : Oper} {t : TypeId} {x : Operand} {f : Nat} {K : AV → Prop} (c : Ctx ρ own env m a w) (ho : o.op = .fieldAddr t x f) (hk : afieldAddr P t (aev env x) f K) :
    ∃ v, K v ∧ OpOk P ρ own m a w o v [] := by
  have hx := aev_sound c.env x
  unfold afieldAddr at hk
  split at hk
  · rename_i a' k st off offs sz e1 e2
    rw [e1] at hx
    simp only [RelV, RelAt] at hx
    obtain ⟨p, hp, hv⟩ := hx
    obtain ⟨fs, hu, ho2, _⟩ := tyOf_st e2
    split at hk
    · rename_i q hq
      obtain ⟨h0, hk⟩ := hk
      subst ho2
      rw [List.getElem?_map] at hq
      cases hf : fs.toList[f]? with
      | none => simp [hf] at hq
      | some fd =>
        simp only [hf, Option.map_some, Option.some.injEq] at hq
        subst hq
        have hf' : fs[f]? = some fd := by simpa using hf
        refine ⟨_, hk, OpOk.pure (val := .pointer (some ⟨p.1, p.2.1 + (st + off + fd.offset) + 0, none⟩)) c ?_ (by simp only [RelV, RelAt]; exact ⟨p, hp, rfl⟩)⟩
        simp only [execOp, ho, hv]
        refine run_v ?_
        have hs : szOf P fd.type ≠ 0 := by simpa [Nat.pos_iff_ne_zero] using h0
        simp [Instr.fieldAt, run_underlying hu, hf', Instr.sureAddr, fieldPlace, run_sizeOf (isSome_of_pos h0), hs, addr_add, Nat.add_assoc]
    · exact hk.elim
  · exact hk.elim

theorem ok_indexAddr {o : Oper} {t : TypeId} {x i : Operand} {K : AV → Prop} (c : Ctx ρ own env m a w) (ho : o.op = .indexAddr t x i) (hk : aindexAddr P t (aev env x) (aev env i) K) :
    ∃ v, K v ∧ OpOk P ρ own m a w o v [] := by
  have hx := aev_sound c.env x
  have hi := aev_sound c.env i
  unfold aindexAddr at hk
  split at hk
  · rename_i a' k st off k2 n e1 e2
    rw [e1] at hx
    rw [e2] at hi
    simp only [RelV, RelAt] at hx hi
    obtain ⟨p, hp, hv⟩ := hx
    split at hk
    · rename_i len esz sz e3
      obtain ⟨h1, h2, h3, hk⟩ := hk
      obtain ⟨e, hu, rfl, _⟩ := tyOf_arr e3
      refine ⟨_, hk, OpOk.pure (val := .pointer (some ⟨p.1, p.2.1 + st + (off + n.toNat * szOf P e), none⟩)) c ?_ (by simp only [RelV, RelAt]; exact ⟨p, hp, rfl⟩)⟩
      simp only [execOp, ho, hv, hi]
      refine run_v ?_
      simp [Instr.indexAt, asIntOf, run_underlying hu, Instr.sureAddr, h2, h3, run_sizeOf (isSome_of_pos h1), addr_add, Nat.add_assoc]
    · exact hk.elim
  · rename_i a' k st off len esz k2 n e1 e2
    rw [e1] at hx
    rw [e2] at hi
    simp only [RelV, RelAt] at hx hi
    obtain ⟨p, cap, hp, hc, hv⟩ := hx
    split at hk
    · rename_i e' bytes e3
      obtain ⟨rfl, h1, h2, h3, hk⟩ := hk
      obtain ⟨e, hu, rfl, _⟩ := tyOf_sl e3
      rcases hv with ⟨hv, _⟩ | ⟨hl, _⟩
      · refine ⟨_, hk, OpOk.pure (val := .pointer (some ⟨p.1, p.2.1 + st + (off + n.toNat * szOf P e), none⟩)) c ?_ (by simp only [RelV, RelAt]; exact ⟨p, hp, rfl⟩)⟩
        simp only [execOp, ho, hv, hi]
        refine run_v ?_
        simp [Instr.indexAt, asIntOf, run_underlying hu, h2, h3, run_sizeOf (isSome_of_pos h1), addr_add, Nat.add_assoc]
      · omega
    · exact hk.elim
  · exact hk.elim

theorem RelSegs.cellAt {gs : Segs} {l : List Value} {st off : Nat} {K : AV → Prop} (h : RelSegs ρ 0 gs l) (hk : ldSc gs st off K) : ∃ v val, K v ∧ l[st + off]? = some val ∧ RelV ρ v val ∧ val.oneCell' = true := ldSc_sound h hk

theorem agg_run {cs l1 l2 l3 : List Value} {j n : Nat} (hl : cs = l1 ++ l2 ++ l3) (h1 : l1.length = j) (h2 : l2.length = n) : cs.toArray.extract j (j + n) = l2.toArray := by
  subst hl
  apply Array.toList_inj.1
  simp only [Array.toList_extract, List.extract_eq_take_drop]
  rw [List.append_assoc, List.drop_append_of_le_length (by omega), List.drop_of_length_le (by omega)]
  simp [← h2]

theorem ok_index {o : Oper} {t : TypeId} {x i : Operand} {K : AV → Prop} (c : Ctx ρ own env m a w) (ho : o.op = .index t x i) (hk : aindex P t (aev env x) (aev env i) K) :
    ∃ v, K v ∧ OpOk P ρ own m a w o v [] := by
  have hx := aev_sound c.env x
  have hi := aev_sound c.env i
  unfold aindex at hk
  split at hk
  · rename_i gs k2 n e1 e2
    rw [e1] at hx
    rw [e2] at hi
    simp only [RelV] at hx hi
    obtain ⟨cs, hv, hr⟩ := hx
    split at hk
    · rename_i len esz sz e3
      obtain ⟨h2, h3, h1, hk⟩ := hk
      obtain ⟨e, hu, rfl, _⟩ := tyOf_arr e3
      have hel : arrEl P t = e := by unfold arrEl; rw [hu]
      rw [hel] at hk
      have agg : (match tyOf P e with | .arr .. | .st .. => True | _ => False) → ldAg gs 0 (n.toNat * szOf P e) (szOf P e) K → ∃ v, K v ∧ OpOk P ρ own m a w o v [] := by
        intro hag hk
        obtain ⟨v, l1, l2, l3, hK, hl, hl1, hl2, hrv⟩ := ldAg_sound h1 hr hk
        refine ⟨_, hK, OpOk.pure (val := .agg l2.toArray) c ?_ hrv⟩
        simp only [execOp, ho, hv, hi]
        refine run_v ?_
        have hex := agg_run (j := n.toNat * szOf P e) (n := szOf P e) hl (by omega) hl2
        simp only [Instr.index, asIntOf, Sem.run_bind, Sem.run_pure, Result.andThen_ok, run_underlying hu, h2, h3, and_self, if_true, run_sizeOf (isSome_of_pos h1), part, isAgg_true hag, hex]
      split at hk
      · rename_i e4; exact agg (by rw [e4]; trivial) hk
      · rename_i e4; exact agg (by rw [e4]; trivial) hk
      · exact hk.elim
      · rename_i q1 q2 q3
        obtain ⟨h5, hk⟩ := hk
        obtain ⟨v, val, hK, hc, hrv, _⟩ := ldSc_sound hr hk
        refine ⟨_, hK, OpOk.pure (val := val) c ?_ hrv⟩
        simp only [execOp, ho, hv, hi]
        refine run_v ?_
        have hc' : cs[n.toNat]? = some val := by simpa using hc
        have hag : (match tyOf P e with | .arr .. | .st .. | .other => False | _ => True) := by
          split <;> simp_all
        simp [Instr.index, asIntOf, run_underlying hu, h2, h3, part, isAgg_false hag, run_sizeOf (isSome_of_pos h1), h5, hc']
    · exact hk.elim
  · rename_i s k2 n e1 e2
    rw [e1] at hx
    rw [e2] at hi
    simp only [RelV, RelAt] at hx hi
    split at hk
    · rename_i e3
      obtain ⟨h2, h3, hk⟩ := hk
      have hu := tyOf_str e3
      have hlt : n.toNat < s.size := by omega
      refine ⟨_, hk, OpOk.pure (val := .int .u8 (s.data.getD n.toNat 0).toNat) c ?_ (by simp [RelV])⟩
      simp only [execOp, ho, hx, hi]
      refine run_v ?_
      have hb : s[n.toNat]? = some (s.data.getD n.toNat 0) := by
        rw [getElem?_pos s n.toNat hlt]
        have h4 : n.toNat < s.data.size := hlt
        congr 1
        unfold Array.getD
        rw [dif_pos h4]
        rfl
      simp [Instr.index, asIntOf, run_underlying hu, h2, hb]
    · exact hk.elim
  · exact hk.elim

def HiOk (hi : Option Value) (len h : Nat) : Prop := (hi = none ∧ h = len) ∨ ∃ k n, hi = some (.int k n) ∧ 0 ≤ n ∧ n ≤ len ∧ h = n.toNat
def LoOk (lo : Option Value) (h l : Nat) : Prop := (lo = none ∧ l = 0) ∨ ∃ k n, lo = some (.int k n) ∧ 0 ≤ n ∧ n ≤ h ∧ l = n.toNat

theorem run_sliceBounds {lo hi : Option Value} {isS : Bool} {len cap h l : Nat} (hc : len ≤ cap) (h1 : HiOk hi len h) (h2 : LoOk lo h l) : (Instr.sliceBounds isS len cap lo hi none).run P w = .ok (l, h, cap) w := by
  rcases h1 with ⟨rfl, rfl⟩ | ⟨k, n, rfl, h3, h4, rfl⟩ <;> rcases h2 with ⟨rfl, rfl⟩ | ⟨k2, n2, rfl, h5, h6, rfl⟩
  · simp [Instr.sliceBounds]
  · simp [Instr.sliceBounds, Instr.sliceBound, asIntOf, h5, h6]
  · have : n ≤ (cap : Int) := by omega
    simp [Instr.sliceBounds, Instr.sliceBound, asIntOf, h3, this]
  · have : n ≤ (cap : Int) := by omega
    have h6' : n2 ≤ max n 0 := by omega
    simp [Instr.sliceBounds, Instr.sliceBound, asIntOf, h3, this, h5, h6']

theorem asliceHi_sound {hi : Option Operand} {len : Nat} {K : Nat → Prop} (c : Ctx ρ own env m a w) (hk : asliceHi (hi.map (aev env)) len K) :
    ∃ h, K h ∧ h ≤ len ∧ HiOk (hi.map a.eval) len h := by
  cases hi with
  | none => exact ⟨len, hk, Nat.le_refl _, .inl ⟨rfl, rfl⟩⟩
  | some x =>
    have hx := aev_sound c.env x
    simp only [Option.map_some, asliceHi] at hk
    split at hk
    · rename_i h0; cases h0
    · rename_i k n e
      simp only [Option.some.injEq] at e
      rw [e] at hx
      simp only [RelV] at hx
      obtain ⟨h1, h2, hk⟩ := hk
      exact ⟨n.toNat, hk, by omega, .inr ⟨_, n, by simp [hx]; rfl, h1, h2, rfl⟩⟩
    · exact hk.elim

theorem asliceLo_sound {lo : Option Operand} {h : Nat} {K : Nat → Prop} (c : Ctx ρ own env m a w) (hk : asliceLo (lo.map (aev env)) h K) :
    ∃ l, K l ∧ l ≤ h ∧ LoOk (lo.map a.eval) h l := by
  cases lo with
  | none => exact ⟨0, hk, Nat.zero_le _, .inl ⟨rfl, rfl⟩⟩
  | some x =>
    have hx := aev_sound c.env x
    simp only [Option.map_some, asliceLo] at hk
    split at hk
    · rename_i h0; cases h0
    · rename_i k n e
      simp only [Option.some.injEq] at e
      rw [e] at hx
      simp only [RelV] at hx
      obtain ⟨h1, h2, hk⟩ := hk
      exact ⟨n.toNat, hk, by omega, .inr ⟨_, n, by simp [hx]; rfl, h1, h2, rfl⟩⟩
    · exact hk.elim

theorem ok_sliceP {o : Oper} {t : TypeId} {x : Operand} {lo hi : Option Operand} {a' k st off : Nat} {K : AV → Prop} (c : Ctx ρ own env m a w) (ho : o.op = .slice t x lo hi none) (e1 : aev env x = .ref (.ptr a' k st off))
    (hk : asliceP P t m a' k st off (lo.map (aev env)) (hi.map (aev env)) K) : ∃ v, K v ∧ OpOk P ρ own m a w o v [] := by
  have hx := aev_sound c.env x
  rw [e1] at hx
  simp only [RelV, RelAt] at hx
  obtain ⟨p, hp, hv⟩ := hx
  unfold asliceP at hk
  split at hk
  · rename_i n esz sz rw_ gs e2 e3
    obtain ⟨h0, hlen, hk⟩ := hk
    obtain ⟨e, hu, rfl, _⟩ := tyOf_arr e2
    obtain ⟨p', fz, hp', hH, _, _⟩ := c.mem.holds a' k rw_ gs e3
    rw [hp] at hp'
    obtain rfl := Option.some.inj hp'
    obtain ⟨arr, T, pre, l0, post, f1, f2, f3, f4, f5⟩ := hH
    have hl0 := f5.length
    have hsz : arr.size = pre.length + l0.length + post.length := by rw [← Array.length_toList, f2]; simp; omega
    obtain ⟨h, hk, hh, hb1⟩ := asliceHi_sound c hk
    obtain ⟨l, hk, hl, hb2⟩ := asliceLo_sound c hk
    have hbb := run_sliceBounds (P := P) (w := w) (isS := false) (Nat.le_refl n) hb1 hb2
    by_cases hcl : n = l
    · subst hcl
      refine ⟨_, hk, OpOk.pure (val := .slice (some ⟨p.1, p.2.1 + st + off, none⟩) (h - n) (n - n)) c ?_ ?_⟩
      · simp only [execOp, ho, hv]
        refine run_v ?_
        simp [Instr.sliceAt, Instr.sureAddr, run_underlying hu, hbb, run_sizeOf (isSome_of_pos h0)]
      · simp only [RelV, RelAt]
        refine ⟨p, 0, hp, by omega, .inr ⟨by omega, ⟨p.1, p.2.1 + st + off, none⟩, ?_⟩⟩
        rw [show h - n = 0 by omega, show n - n = 0 by omega]
    · refine ⟨_, hk, OpOk.pure (val := .slice (some ⟨p.1, p.2.1 + st + (off + l * szOf P e), none⟩) (h - l) (n - l)) c ?_ ?_⟩
      · simp only [execOp, ho, hv]
        refine run_v ?_
        simp [Instr.sliceAt, Instr.sureAddr, run_underlying hu, hbb, run_sizeOf (isSome_of_pos h0), hcl, addr_add, Nat.add_assoc]
      · simp only [RelV, RelAt]
        refine ⟨p, n - l, hp, by omega, .inl ⟨rfl, ?_⟩⟩
        have : l * szOf P e + (n - l) * szOf P e = n * szOf P e := by rw [← Nat.add_mul]; congr 1; omega
        omega
  · exact hk.elim
theorem ok_slice {o : Oper} {t : TypeId} {x : Operand} {lo hi : Option Operand} {K : AV → Prop} (c : Ctx ρ own env m a w) (ho : o.op = .slice t x lo hi none) (hk : aslice P t (aev env x) (lo.map (aev env)) (hi.map (aev env)) K) :
    ∃ v, K v ∧ OpOk P ρ own m a w o v [] := by
  have hx := aev_sound c.env x
  unfold aslice at hk
  split at hk
  · rename_i a' k st off len esz e' bytes e1 e2
    rw [e1] at hx
    simp only [RelV, RelAt] at hx
    obtain ⟨p, cap, hp, hc, hv⟩ := hx
    obtain ⟨rfl, h0, hk⟩ := hk
    obtain ⟨e, hu, rfl, _⟩ := tyOf_sl e2
    obtain ⟨h, hk, hh, hb1⟩ := asliceHi_sound c hk
    obtain ⟨l, hk, hl, hb2⟩ := asliceLo_sound c hk
    rcases hv with ⟨hv, hcap⟩ | ⟨hz, ad, hv⟩
    · have hbb := run_sliceBounds (P := P) (w := w) (isS := true) hc hb1 hb2
      by_cases hcl : cap = l
      · subst hcl
        refine ⟨_, hk, OpOk.pure (val := .slice (some ⟨p.1, p.2.1 + st + off, none⟩) (h - cap) (cap - cap)) c ?_ ?_⟩
        · simp only [execOp, ho, hv]
          refine run_v ?_
          simp [Instr.sliceAt, Instr.slice, run_underlying hu, hbb, run_sizeOf (isSome_of_pos h0)]
        · simp only [RelV, RelAt]
          refine ⟨p, 0, hp, by omega, .inr ⟨by omega, ⟨p.1, p.2.1 + st + off, none⟩, ?_⟩⟩
          rw [show h - cap = 0 by omega, show cap - cap = 0 by omega]
      · refine ⟨_, hk, OpOk.pure (val := .slice (some ⟨p.1, p.2.1 + st + (off + l * szOf P e), none⟩) (h - l) (cap - l)) c ?_ ?_⟩
        · simp only [execOp, ho, hv]
          refine run_v ?_
          simp [Instr.sliceAt, Instr.slice, run_underlying hu, hbb, run_sizeOf (isSome_of_pos h0), hcl, addr_add, Nat.add_assoc]
        · simp only [RelV, RelAt]
          refine ⟨p, cap - l, hp, by omega, .inl ⟨rfl, ?_⟩⟩
          have : l * szOf P e + (cap - l) * szOf P e = cap * szOf P e := by rw [← Nat.add_mul]; congr 1; omega
          omega
    · subst hz
      have hh0 : h = 0 := by omega
      subst hh0
      have hl0 : l = 0 := by omega
      subst hl0
      have hbb := run_sliceBounds (P := P) (w := w) (isS := true) (Nat.le_refl 0) hb1 hb2
      refine ⟨_, hk, OpOk.pure (val := .slice (some ad) 0 0) c ?_ ?_⟩
      · simp only [execOp, ho, hv]
        refine run_v ?_
        simp [Instr.sliceAt, Instr.slice, run_underlying hu, hbb, run_sizeOf (isSome_of_pos h0)]
      · simp only [RelV, RelAt]
        exact ⟨p, 0, hp, by omega, .inr (by simp)⟩
  · rename_i s e1 e2
    rw [e1] at hx
    simp only [RelV, RelAt] at hx
    have hu := tyOf_str e2
    obtain ⟨h, hk, hh, hb1⟩ := asliceHi_sound c hk
    obtain ⟨l, hk, hl, hb2⟩ := asliceLo_sound c hk
    have hbb := run_sliceBounds (P := P) (w := w) (isS := false) (Nat.le_refl _) hb1 hb2
    refine ⟨_, hk, OpOk.pure (val := .string (s.extract l h)) c ?_ (by simp [RelV, RelAt])⟩
    simp only [execOp, ho, hx]
    refine run_v ?_
    simp [Instr.sliceAt, Instr.slice, run_underlying hu, hbb]
  · exact hk.elim

end
end Go.Abs

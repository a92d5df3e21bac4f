/-
  No cell of these rows narrows 'for every input' (looked for: loops, veiled, ifaces, maps, wideKeys, modest, calm, conditions, laid).
  DERIVED. THE GIVEN ROWS OF THIS SEAT. 12 by the template 'for every input the law returns true; each argument reads behind the call as it read before'; 0 by the template 'total and deterministic' (their statements: YtgblnnodoabdeaaTotals.lean).
  GIVEN WITH THE SEED: the statements are not yours to turn. If you find one false, say at which input.
  Laid BY PROGRAM, IN A SANDBOX (cutbox-rows.mjs): the forced cells as the released guide's own fill.sh prints them over the translation 6a055ad845853a5d… (all of the seat's roots in one cut). By AI agents, Wed Nov 11 2026. No macro, syntax, notation, axiom, sorry.
-/
import Derived.Test.YtgblnnodoabdeaaChecked
import GoSem.Claim
import GoSem.ClaimJoined
import GoSem.ClaimMapViews
import Derived.JoinedTies
import Derived.KernelRfl
namespace Go.Proofs.Ytgblnnodoabdeaa
/- THE CELL 'sum', in the pinned program and in every row, IS THE sha256 OF THE DUMP (.gsa) THAT YtgblnnodoabdeaaProg.lean LOADS. Nothing in Lean hashes anything: it is a label: what it is worth is what the hold of that sum in a sandbox is worth. -/
noncomputable def Try.pinned : Pinned := { name := "ytgblnnodoabdeaa", sum := "6a055ad845853a5d47dee12c47fd342f23ec45e0d0d0788a3954ead38408bf95", checked := Try.checked }
namespace Rows
def none {H : Type} : Left H := { results := [], args := [] }

/-- 'laws.FnExactIdempotentsOf': WHATEVER THE INPUT: true; the input reads as it did. -/
def fnExactIdempotentsOfSpec : ChangeSpec := { name := "fnExactIdempotentsOf", fn := fun _ => fun
  | [d1, d2] => { results := [.lit (.bool true)], args := [d1, d2] }
  | _ => none }
def fnExactIdempotentsOfRow : OpenClaim := { program := "ytgblnnodoabdeaa", sum := "6a055ad845853a5d47dee12c47fd342f23ec45e0d0d0788a3954ead38408bf95", func := "loop.example/g01195/laws.FnExactIdempotentsOf", spec := "fnExactIdempotentsOf", unfollowed := true, recurses := true, apart := false }
def FnExactIdempotentsOfSaid : Prop := fnExactIdempotentsOfRow.holds Try.pinned (OpenSpec.ofChange fnExactIdempotentsOfSpec)

/-- ITS FALSE NEIGHBOUR: 'it returns false'. Refute it at one input. -/
def fnExactIdempotentsOfWrong : ChangeSpec := { name := "fnExactIdempotentsOf", fn := fun _ => fun
  | [d1, d2] => { results := [.lit (.bool false)], args := [d1, d2] }
  | _ => none }
def FnExactIdempotentsOfWrongFalsely : Prop := fnExactIdempotentsOfRow.holds Try.pinned (OpenSpec.ofChange fnExactIdempotentsOfWrong)

/-- 'laws.FnExactCountAutomorphisms': WHATEVER THE INPUT: true; the input reads as it did. -/
def fnExactCountAutomorphismsSpec : ChangeSpec := { name := "fnExactCountAutomorphisms", fn := fun _ => fun
  | [d] => { results := [.lit (.bool true)], args := [d] }
  | _ => none }
def fnExactCountAutomorphismsRow : OpenClaim := { program := "ytgblnnodoabdeaa", sum := "6a055ad845853a5d47dee12c47fd342f23ec45e0d0d0788a3954ead38408bf95", func := "loop.example/g01195/laws.FnExactCountAutomorphisms", spec := "fnExactCountAutomorphisms", unfollowed := true, recurses := true, apart := false }
def FnExactCountAutomorphismsSaid : Prop := fnExactCountAutomorphismsRow.holds Try.pinned (OpenSpec.ofChange fnExactCountAutomorphismsSpec)

/-- ITS FALSE NEIGHBOUR: 'it returns false'. Refute it at one input. -/
def fnExactCountAutomorphismsWrong : ChangeSpec := { name := "fnExactCountAutomorphisms", fn := fun _ => fun
  | [d] => { results := [.lit (.bool false)], args := [d] }
  | _ => none }
def FnExactCountAutomorphismsWrongFalsely : Prop := fnExactCountAutomorphismsRow.holds Try.pinned (OpenSpec.ofChange fnExactCountAutomorphismsWrong)

/-- 'laws.FnExactIsomorphismOf': WHATEVER THE INPUT: true; the input reads as it did. -/
def fnExactIsomorphismOfSpec : ChangeSpec := { name := "fnExactIsomorphismOf", fn := fun _ => fun
  | [d1, d2] => { results := [.lit (.bool true)], args := [d1, d2] }
  | _ => none }
def fnExactIsomorphismOfRow : OpenClaim := { program := "ytgblnnodoabdeaa", sum := "6a055ad845853a5d47dee12c47fd342f23ec45e0d0d0788a3954ead38408bf95", func := "loop.example/g01195/laws.FnExactIsomorphismOf", spec := "fnExactIsomorphismOf", unfollowed := true, recurses := true, apart := false }
def FnExactIsomorphismOfSaid : Prop := fnExactIsomorphismOfRow.holds Try.pinned (OpenSpec.ofChange fnExactIsomorphismOfSpec)

/-- ITS FALSE NEIGHBOUR: 'it returns false'. Refute it at one input. -/
def fnExactIsomorphismOfWrong : ChangeSpec := { name := "fnExactIsomorphismOf", fn := fun _ => fun
  | [d1, d2] => { results := [.lit (.bool false)], args := [d1, d2] }
  | _ => none }
def FnExactIsomorphismOfWrongFalsely : Prop := fnExactIsomorphismOfRow.holds Try.pinned (OpenSpec.ofChange fnExactIsomorphismOfWrong)

/-- 'laws.FnExactAllHomomorphisms': WHATEVER THE INPUT: true; the input reads as it did. -/
def fnExactAllHomomorphismsSpec : ChangeSpec := { name := "fnExactAllHomomorphisms", fn := fun _ => fun
  | [d1, d2] => { results := [.lit (.bool true)], args := [d1, d2] }
  | _ => none }
def fnExactAllHomomorphismsRow : OpenClaim := { program := "ytgblnnodoabdeaa", sum := "6a055ad845853a5d47dee12c47fd342f23ec45e0d0d0788a3954ead38408bf95", func := "loop.example/g01195/laws.FnExactAllHomomorphisms", spec := "fnExactAllHomomorphisms", unfollowed := true, recurses := true, apart := false }
def FnExactAllHomomorphismsSaid : Prop := fnExactAllHomomorphismsRow.holds Try.pinned (OpenSpec.ofChange fnExactAllHomomorphismsSpec)

/-- ITS FALSE NEIGHBOUR: 'it returns false'. Refute it at one input. -/
def fnExactAllHomomorphismsWrong : ChangeSpec := { name := "fnExactAllHomomorphisms", fn := fun _ => fun
  | [d1, d2] => { results := [.lit (.bool false)], args := [d1, d2] }
  | _ => none }
def FnExactAllHomomorphismsWrongFalsely : Prop := fnExactAllHomomorphismsRow.holds Try.pinned (OpenSpec.ofChange fnExactAllHomomorphismsWrong)

/-- 'laws.FnExactAutomorphismsOf': WHATEVER THE INPUT: true; the input reads as it did. -/
def fnExactAutomorphismsOfSpec : ChangeSpec := { name := "fnExactAutomorphismsOf", fn := fun _ => fun
  | [d] => { results := [.lit (.bool true)], args := [d] }
  | _ => none }
def fnExactAutomorphismsOfRow : OpenClaim := { program := "ytgblnnodoabdeaa", sum := "6a055ad845853a5d47dee12c47fd342f23ec45e0d0d0788a3954ead38408bf95", func := "loop.example/g01195/laws.FnExactAutomorphismsOf", spec := "fnExactAutomorphismsOf", unfollowed := true, recurses := true, apart := false }
def FnExactAutomorphismsOfSaid : Prop := fnExactAutomorphismsOfRow.holds Try.pinned (OpenSpec.ofChange fnExactAutomorphismsOfSpec)

/-- ITS FALSE NEIGHBOUR: 'it returns false'. Refute it at one input. -/
def fnExactAutomorphismsOfWrong : ChangeSpec := { name := "fnExactAutomorphismsOf", fn := fun _ => fun
  | [d] => { results := [.lit (.bool false)], args := [d] }
  | _ => none }
def FnExactAutomorphismsOfWrongFalsely : Prop := fnExactAutomorphismsOfRow.holds Try.pinned (OpenSpec.ofChange fnExactAutomorphismsOfWrong)

/-- 'laws.FnExactCanonicalLoop': WHATEVER THE INPUT: true; the input reads as it did. -/
def fnExactCanonicalLoopSpec : ChangeSpec := { name := "fnExactCanonicalLoop", fn := fun _ => fun
  | [d] => { results := [.lit (.bool true)], args := [d] }
  | _ => none }
def fnExactCanonicalLoopRow : OpenClaim := { program := "ytgblnnodoabdeaa", sum := "6a055ad845853a5d47dee12c47fd342f23ec45e0d0d0788a3954ead38408bf95", func := "loop.example/g01195/laws.FnExactCanonicalLoop", spec := "fnExactCanonicalLoop", inPlace := ["internal/bytealg.Compare"], unfollowed := true, recurses := true, apart := false }
def FnExactCanonicalLoopSaid : Prop := fnExactCanonicalLoopRow.holds Try.pinned (OpenSpec.ofChange fnExactCanonicalLoopSpec)

/-- ITS FALSE NEIGHBOUR: 'it returns false'. Refute it at one input. -/
def fnExactCanonicalLoopWrong : ChangeSpec := { name := "fnExactCanonicalLoop", fn := fun _ => fun
  | [d] => { results := [.lit (.bool false)], args := [d] }
  | _ => none }
def FnExactCanonicalLoopWrongFalsely : Prop := fnExactCanonicalLoopRow.holds Try.pinned (OpenSpec.ofChange fnExactCanonicalLoopWrong)

/-- 'laws.FnExactCanonicalIsotope': WHATEVER THE INPUT: true; the input reads as it did. -/
def fnExactCanonicalIsotopeSpec : ChangeSpec := { name := "fnExactCanonicalIsotope", fn := fun _ => fun
  | [d] => { results := [.lit (.bool true)], args := [d] }
  | _ => none }
def fnExactCanonicalIsotopeRow : OpenClaim := { program := "ytgblnnodoabdeaa", sum := "6a055ad845853a5d47dee12c47fd342f23ec45e0d0d0788a3954ead38408bf95", func := "loop.example/g01195/laws.FnExactCanonicalIsotope", spec := "fnExactCanonicalIsotope", inPlace := ["internal/bytealg.Compare"], unfollowed := true, recurses := true, apart := false }
def FnExactCanonicalIsotopeSaid : Prop := fnExactCanonicalIsotopeRow.holds Try.pinned (OpenSpec.ofChange fnExactCanonicalIsotopeSpec)

/-- ITS FALSE NEIGHBOUR: 'it returns false'. Refute it at one input. -/
def fnExactCanonicalIsotopeWrong : ChangeSpec := { name := "fnExactCanonicalIsotope", fn := fun _ => fun
  | [d] => { results := [.lit (.bool false)], args := [d] }
  | _ => none }
def FnExactCanonicalIsotopeWrongFalsely : Prop := fnExactCanonicalIsotopeRow.holds Try.pinned (OpenSpec.ofChange fnExactCanonicalIsotopeWrong)

/-- 'laws.FnExactCountUnits': WHATEVER THE INPUT: true; the input reads as it did. -/
def fnExactCountUnitsSpec : ChangeSpec := { name := "fnExactCountUnits", fn := fun _ => fun
  | [d1, d2] => { results := [.lit (.bool true)], args := [d1, d2] }
  | _ => none }
def fnExactCountUnitsRow : OpenClaim := { program := "ytgblnnodoabdeaa", sum := "6a055ad845853a5d47dee12c47fd342f23ec45e0d0d0788a3954ead38408bf95", func := "loop.example/g01195/laws.FnExactCountUnits", spec := "fnExactCountUnits", unfollowed := true, recurses := true, apart := false }
def FnExactCountUnitsSaid : Prop := fnExactCountUnitsRow.holds Try.pinned (OpenSpec.ofChange fnExactCountUnitsSpec)

/-- ITS FALSE NEIGHBOUR: 'it returns false'. Refute it at one input. -/
def fnExactCountUnitsWrong : ChangeSpec := { name := "fnExactCountUnits", fn := fun _ => fun
  | [d1, d2] => { results := [.lit (.bool false)], args := [d1, d2] }
  | _ => none }
def FnExactCountUnitsWrongFalsely : Prop := fnExactCountUnitsRow.holds Try.pinned (OpenSpec.ofChange fnExactCountUnitsWrong)

/-- 'laws.FnExactRightInverseOfSum': WHATEVER THE INPUT: true; the input reads as it did. -/
def fnExactRightInverseOfSumSpec : ChangeSpec := { name := "fnExactRightInverseOfSum", fn := fun _ => fun
  | [d1, d2, d3] => { results := [.lit (.bool true)], args := [d1, d2, d3] }
  | _ => none }
def fnExactRightInverseOfSumRow : OpenClaim := { program := "ytgblnnodoabdeaa", sum := "6a055ad845853a5d47dee12c47fd342f23ec45e0d0d0788a3954ead38408bf95", func := "loop.example/g01195/laws.FnExactRightInverseOfSum", spec := "fnExactRightInverseOfSum", apart := false }
def FnExactRightInverseOfSumSaid : Prop := fnExactRightInverseOfSumRow.holds Try.pinned (OpenSpec.ofChange fnExactRightInverseOfSumSpec)

/-- ITS FALSE NEIGHBOUR: 'it returns false'. Refute it at one input. -/
def fnExactRightInverseOfSumWrong : ChangeSpec := { name := "fnExactRightInverseOfSum", fn := fun _ => fun
  | [d1, d2, d3] => { results := [.lit (.bool false)], args := [d1, d2, d3] }
  | _ => none }
def FnExactRightInverseOfSumWrongFalsely : Prop := fnExactRightInverseOfSumRow.holds Try.pinned (OpenSpec.ofChange fnExactRightInverseOfSumWrong)

/-- 'laws.FnExactIsZeroDivisor': WHATEVER THE INPUT: true; the input reads as it did. -/
def fnExactIsZeroDivisorSpec : ChangeSpec := { name := "fnExactIsZeroDivisor", fn := fun _ => fun
  | [d1, d2, d3] => { results := [.lit (.bool true)], args := [d1, d2, d3] }
  | _ => none }
def fnExactIsZeroDivisorRow : OpenClaim := { program := "ytgblnnodoabdeaa", sum := "6a055ad845853a5d47dee12c47fd342f23ec45e0d0d0788a3954ead38408bf95", func := "loop.example/g01195/laws.FnExactIsZeroDivisor", spec := "fnExactIsZeroDivisor", apart := false }
def FnExactIsZeroDivisorSaid : Prop := fnExactIsZeroDivisorRow.holds Try.pinned (OpenSpec.ofChange fnExactIsZeroDivisorSpec)

/-- ITS FALSE NEIGHBOUR: 'it returns false'. Refute it at one input. -/
def fnExactIsZeroDivisorWrong : ChangeSpec := { name := "fnExactIsZeroDivisor", fn := fun _ => fun
  | [d1, d2, d3] => { results := [.lit (.bool false)], args := [d1, d2, d3] }
  | _ => none }
def FnExactIsZeroDivisorWrongFalsely : Prop := fnExactIsZeroDivisorRow.holds Try.pinned (OpenSpec.ofChange fnExactIsZeroDivisorWrong)

/-- 'laws.FnExactMateOf': WHATEVER THE INPUT: true; the input reads as it did. -/
def fnExactMateOfSpec : ChangeSpec := { name := "fnExactMateOf", fn := fun _ => fun
  | [d] => { results := [.lit (.bool true)], args := [d] }
  | _ => none }
def fnExactMateOfRow : OpenClaim := { program := "ytgblnnodoabdeaa", sum := "6a055ad845853a5d47dee12c47fd342f23ec45e0d0d0788a3954ead38408bf95", func := "loop.example/g01195/laws.FnExactMateOf", spec := "fnExactMateOf", unfollowed := true, recurses := true, apart := false }
def FnExactMateOfSaid : Prop := fnExactMateOfRow.holds Try.pinned (OpenSpec.ofChange fnExactMateOfSpec)

/-- ITS FALSE NEIGHBOUR: 'it returns false'. Refute it at one input. -/
def fnExactMateOfWrong : ChangeSpec := { name := "fnExactMateOf", fn := fun _ => fun
  | [d] => { results := [.lit (.bool false)], args := [d] }
  | _ => none }
def FnExactMateOfWrongFalsely : Prop := fnExactMateOfRow.holds Try.pinned (OpenSpec.ofChange fnExactMateOfWrong)

/-- 'laws.FnExactMultiplicationOrder': WHATEVER THE INPUT: true; the input reads as it did. -/
def fnExactMultiplicationOrderSpec : ChangeSpec := { name := "fnExactMultiplicationOrder", fn := fun _ => fun
  | [d] => { results := [.lit (.bool true)], args := [d] }
  | _ => none }
def fnExactMultiplicationOrderRow : OpenClaim := { program := "ytgblnnodoabdeaa", sum := "6a055ad845853a5d47dee12c47fd342f23ec45e0d0d0788a3954ead38408bf95", func := "loop.example/g01195/laws.FnExactMultiplicationOrder", spec := "fnExactMultiplicationOrder", recurses := true, apart := false }
def FnExactMultiplicationOrderSaid : Prop := fnExactMultiplicationOrderRow.holds Try.pinned (OpenSpec.ofChange fnExactMultiplicationOrderSpec)

/-- ITS FALSE NEIGHBOUR: 'it returns false'. Refute it at one input. -/
def fnExactMultiplicationOrderWrong : ChangeSpec := { name := "fnExactMultiplicationOrder", fn := fun _ => fun
  | [d] => { results := [.lit (.bool false)], args := [d] }
  | _ => none }
def FnExactMultiplicationOrderWrongFalsely : Prop := fnExactMultiplicationOrderRow.holds Try.pinned (OpenSpec.ofChange fnExactMultiplicationOrderWrong)

/- THE SECOND FORM. 'bulk': how many values and letters a reading holds, each counted each time it is reached (what is shared counts as often as it is met; a slice's spare places count too). A statement '..UptoSaid' is the law's where the arguments, and the package variables that the reading takes, are together of bulk at most 1048576: NARROWER than '..Said'. Prove '..Said' where nothing that the law and all that it calls make is longer than what came in: it says more and counts as full. Else prove '..UptoSaid'. A law counts once. -/
mutual
def uptoBulk {H : Type} : DataW H → Nat
  | .lit (.string bytes) => bytes.length + 1
  | .lit _ => 1
  | .nil => 1
  | .ptr d => uptoBulk d + 1
  | .slice elems spare => uptoBulkAll elems + uptoBulkAll spare + 1
  | .agg parts => uptoBulkAll parts + 1
  | .iface _ d => uptoBulk d + 1
  | .map entries => uptoBulkEntries entries + 1
  | .held _ => 1
def uptoBulkAll {H : Type} : List (DataW H) → Nat
  | [] => 0
  | d :: r => uptoBulk d + uptoBulkAll r
def uptoBulkEntries {H : Type} : List (Lit × DataW H) → Nat
  | [] => 0
  | x :: r => uptoBulkEntry x + uptoBulkEntries r
def uptoBulkEntry {H : Type} : Lit × DataW H → Nat
  | (.string bytes, d) => bytes.length + uptoBulk d + 1
  | (_, d) => uptoBulk d + 1
 end
def uptoSmall : (H : Type) → List (DataW H) → Bool := fun _ ds => decide (uptoBulkAll ds ≤ 1048576)
def OpenSpec.upto (s : _root_.Go.ChangeSpec) : _root_.Go.OpenSpec := { _root_.Go.OpenSpec.ofChange s with cond := some uptoSmall }

/-- 'laws.FnExactIdempotentsOf', WHERE WHAT IT READS IS OF BULK AT MOST 1048576: true; the input reads as it did. -/
def fnExactIdempotentsOfUptoRow : OpenClaim := { program := "ytgblnnodoabdeaa", sum := "6a055ad845853a5d47dee12c47fd342f23ec45e0d0d0788a3954ead38408bf95", func := "loop.example/g01195/laws.FnExactIdempotentsOf", spec := "fnExactIdempotentsOf", unfollowed := true, recurses := true, apart := false, narrowed := true }
def FnExactIdempotentsOfUptoSaid : Prop := fnExactIdempotentsOfUptoRow.holds Try.pinned (OpenSpec.upto fnExactIdempotentsOfSpec)

/-- 'laws.FnExactCountAutomorphisms', WHERE WHAT IT READS IS OF BULK AT MOST 1048576: true; the input reads as it did. -/
def fnExactCountAutomorphismsUptoRow : OpenClaim := { program := "ytgblnnodoabdeaa", sum := "6a055ad845853a5d47dee12c47fd342f23ec45e0d0d0788a3954ead38408bf95", func := "loop.example/g01195/laws.FnExactCountAutomorphisms", spec := "fnExactCountAutomorphisms", unfollowed := true, recurses := true, apart := false, narrowed := true }
def FnExactCountAutomorphismsUptoSaid : Prop := fnExactCountAutomorphismsUptoRow.holds Try.pinned (OpenSpec.upto fnExactCountAutomorphismsSpec)

/-- 'laws.FnExactIsomorphismOf', WHERE WHAT IT READS IS OF BULK AT MOST 1048576: true; the input reads as it did. -/
def fnExactIsomorphismOfUptoRow : OpenClaim := { program := "ytgblnnodoabdeaa", sum := "6a055ad845853a5d47dee12c47fd342f23ec45e0d0d0788a3954ead38408bf95", func := "loop.example/g01195/laws.FnExactIsomorphismOf", spec := "fnExactIsomorphismOf", unfollowed := true, recurses := true, apart := false, narrowed := true }
def FnExactIsomorphismOfUptoSaid : Prop := fnExactIsomorphismOfUptoRow.holds Try.pinned (OpenSpec.upto fnExactIsomorphismOfSpec)

/-- 'laws.FnExactAllHomomorphisms', WHERE WHAT IT READS IS OF BULK AT MOST 1048576: true; the input reads as it did. -/
def fnExactAllHomomorphismsUptoRow : OpenClaim := { program := "ytgblnnodoabdeaa", sum := "6a055ad845853a5d47dee12c47fd342f23ec45e0d0d0788a3954ead38408bf95", func := "loop.example/g01195/laws.FnExactAllHomomorphisms", spec := "fnExactAllHomomorphisms", unfollowed := true, recurses := true, apart := false, narrowed := true }
def FnExactAllHomomorphismsUptoSaid : Prop := fnExactAllHomomorphismsUptoRow.holds Try.pinned (OpenSpec.upto fnExactAllHomomorphismsSpec)

/-- 'laws.FnExactAutomorphismsOf', WHERE WHAT IT READS IS OF BULK AT MOST 1048576: true; the input reads as it did. -/
def fnExactAutomorphismsOfUptoRow : OpenClaim := { program := "ytgblnnodoabdeaa", sum := "6a055ad845853a5d47dee12c47fd342f23ec45e0d0d0788a3954ead38408bf95", func := "loop.example/g01195/laws.FnExactAutomorphismsOf", spec := "fnExactAutomorphismsOf", unfollowed := true, recurses := true, apart := false, narrowed := true }
def FnExactAutomorphismsOfUptoSaid : Prop := fnExactAutomorphismsOfUptoRow.holds Try.pinned (OpenSpec.upto fnExactAutomorphismsOfSpec)

/-- 'laws.FnExactCanonicalLoop', WHERE WHAT IT READS IS OF BULK AT MOST 1048576: true; the input reads as it did. -/
def fnExactCanonicalLoopUptoRow : OpenClaim := { program := "ytgblnnodoabdeaa", sum := "6a055ad845853a5d47dee12c47fd342f23ec45e0d0d0788a3954ead38408bf95", func := "loop.example/g01195/laws.FnExactCanonicalLoop", spec := "fnExactCanonicalLoop", inPlace := ["internal/bytealg.Compare"], unfollowed := true, recurses := true, apart := false, narrowed := true }
def FnExactCanonicalLoopUptoSaid : Prop := fnExactCanonicalLoopUptoRow.holds Try.pinned (OpenSpec.upto fnExactCanonicalLoopSpec)

/-- 'laws.FnExactCanonicalIsotope', WHERE WHAT IT READS IS OF BULK AT MOST 1048576: true; the input reads as it did. -/
def fnExactCanonicalIsotopeUptoRow : OpenClaim := { program := "ytgblnnodoabdeaa", sum := "6a055ad845853a5d47dee12c47fd342f23ec45e0d0d0788a3954ead38408bf95", func := "loop.example/g01195/laws.FnExactCanonicalIsotope", spec := "fnExactCanonicalIsotope", inPlace := ["internal/bytealg.Compare"], unfollowed := true, recurses := true, apart := false, narrowed := true }
def FnExactCanonicalIsotopeUptoSaid : Prop := fnExactCanonicalIsotopeUptoRow.holds Try.pinned (OpenSpec.upto fnExactCanonicalIsotopeSpec)

/-- 'laws.FnExactCountUnits', WHERE WHAT IT READS IS OF BULK AT MOST 1048576: true; the input reads as it did. -/
def fnExactCountUnitsUptoRow : OpenClaim := { program := "ytgblnnodoabdeaa", sum := "6a055ad845853a5d47dee12c47fd342f23ec45e0d0d0788a3954ead38408bf95", func := "loop.example/g01195/laws.FnExactCountUnits", spec := "fnExactCountUnits", unfollowed := true, recurses := true, apart := false, narrowed := true }
def FnExactCountUnitsUptoSaid : Prop := fnExactCountUnitsUptoRow.holds Try.pinned (OpenSpec.upto fnExactCountUnitsSpec)

/-- 'laws.FnExactRightInverseOfSum', WHERE WHAT IT READS IS OF BULK AT MOST 1048576: true; the input reads as it did. -/
def fnExactRightInverseOfSumUptoRow : OpenClaim := { program := "ytgblnnodoabdeaa", sum := "6a055ad845853a5d47dee12c47fd342f23ec45e0d0d0788a3954ead38408bf95", func := "loop.example/g01195/laws.FnExactRightInverseOfSum", spec := "fnExactRightInverseOfSum", apart := false, narrowed := true }
def FnExactRightInverseOfSumUptoSaid : Prop := fnExactRightInverseOfSumUptoRow.holds Try.pinned (OpenSpec.upto fnExactRightInverseOfSumSpec)

/-- 'laws.FnExactIsZeroDivisor', WHERE WHAT IT READS IS OF BULK AT MOST 1048576: true; the input reads as it did. -/
def fnExactIsZeroDivisorUptoRow : OpenClaim := { program := "ytgblnnodoabdeaa", sum := "6a055ad845853a5d47dee12c47fd342f23ec45e0d0d0788a3954ead38408bf95", func := "loop.example/g01195/laws.FnExactIsZeroDivisor", spec := "fnExactIsZeroDivisor", apart := false, narrowed := true }
def FnExactIsZeroDivisorUptoSaid : Prop := fnExactIsZeroDivisorUptoRow.holds Try.pinned (OpenSpec.upto fnExactIsZeroDivisorSpec)

/-- 'laws.FnExactMateOf', WHERE WHAT IT READS IS OF BULK AT MOST 1048576: true; the input reads as it did. -/
def fnExactMateOfUptoRow : OpenClaim := { program := "ytgblnnodoabdeaa", sum := "6a055ad845853a5d47dee12c47fd342f23ec45e0d0d0788a3954ead38408bf95", func := "loop.example/g01195/laws.FnExactMateOf", spec := "fnExactMateOf", unfollowed := true, recurses := true, apart := false, narrowed := true }
def FnExactMateOfUptoSaid : Prop := fnExactMateOfUptoRow.holds Try.pinned (OpenSpec.upto fnExactMateOfSpec)

/-- 'laws.FnExactMultiplicationOrder', WHERE WHAT IT READS IS OF BULK AT MOST 1048576: true; the input reads as it did. -/
def fnExactMultiplicationOrderUptoRow : OpenClaim := { program := "ytgblnnodoabdeaa", sum := "6a055ad845853a5d47dee12c47fd342f23ec45e0d0d0788a3954ead38408bf95", func := "loop.example/g01195/laws.FnExactMultiplicationOrder", spec := "fnExactMultiplicationOrder", recurses := true, apart := false, narrowed := true }
def FnExactMultiplicationOrderUptoSaid : Prop := fnExactMultiplicationOrderUptoRow.holds Try.pinned (OpenSpec.upto fnExactMultiplicationOrderSpec)

end Rows
end Go.Proofs.Ytgblnnodoabdeaa

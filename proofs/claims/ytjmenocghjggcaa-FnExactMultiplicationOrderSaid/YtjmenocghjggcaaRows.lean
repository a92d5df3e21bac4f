/-
  No cell of these rows narrows 'for every input' (looked for: loops, veiled, ifaces, maps, wideKeys, modest, calm, conditions, laid).
  DERIVED. THE GIVEN ROWS OF THIS SEAT. 5 by the template 'for every input the law returns true; each argument reads behind the call as it read before'; 0 by the template 'total and deterministic' (their statements: YtjmenocghjggcaaTotals.lean).
  GIVEN WITH THE SEED: the statements are not yours to turn. If you find one false, say at which input.
  Laid BY PROGRAM, IN A SANDBOX (cutbox-rows.mjs): the forced cells as the released guide's own fill.sh prints them over the translation 362ede88944e281c… (all of the seat's roots in one cut). By AI agents, Wed Nov 11 2026. No macro, syntax, notation, axiom, sorry.
-/
import Derived.Test.YtjmenocghjggcaaChecked
import GoSem.Claim
import GoSem.ClaimJoined
import GoSem.ClaimMapViews
import Derived.JoinedTies
import Derived.KernelRfl
namespace Go.Proofs.Ytjmenocghjggcaa
/- THE CELL 'sum', in the pinned program and in every row, IS THE sha256 OF THE DUMP (.gsa) THAT YtjmenocghjggcaaProg.lean LOADS. Nothing in Lean hashes anything: it is a label: what it is worth is what the hold of that sum in a sandbox is worth. -/
noncomputable def Try.pinned : Pinned := { name := "ytjmenocghjggcaa", sum := "362ede88944e281cf0e0c6380c18d6a30e79908a7c6011fd6cbccfeec1bd9072", checked := Try.checked }
namespace Rows
def none {H : Type} : Left H := { results := [], args := [] }

/-- 'laws.FnExactCountUnits': WHATEVER THE INPUT: true; the input reads as it did. -/
def fnExactCountUnitsSpec : ChangeSpec := { name := "fnExactCountUnits", fn := fun _ => fun
  | [d1, d2] => { results := [.lit (.bool true)], args := [d1, d2] }
  | _ => none }
def fnExactCountUnitsRow : OpenClaim := { program := "ytjmenocghjggcaa", sum := "362ede88944e281cf0e0c6380c18d6a30e79908a7c6011fd6cbccfeec1bd9072", func := "loop.example/g01195/laws.FnExactCountUnits", spec := "fnExactCountUnits", unfollowed := true, recurses := true, apart := false }
def FnExactCountUnitsSaid : Prop := fnExactCountUnitsRow.holds Try.pinned (OpenSpec.ofChange fnExactCountUnitsSpec)

/-- ITS FALSE NEIGHBOUR: 'it returns false'. Refute it at one input. -/
def fnExactCountUnitsWrong : ChangeSpec := { name := "fnExactCountUnits", fn := fun _ => fun
  | [d1, d2] => { results := [.lit (.bool false)], args := [d1, d2] }
  | _ => none }
def FnExactCountUnitsWrongFalsely : Prop := fnExactCountUnitsRow.holds Try.pinned (OpenSpec.ofChange fnExactCountUnitsWrong)

/-- 'laws.FnExactRightInverseOfSum': WHATEVER THE INPUT: true; the input reads as it did. -/
def fnExactRightInverseOfSumSpec : ChangeSpec := { name := "fnExactRightInverseOfSum", fn := fun _ => fun
  | [d1, d2, d3] => { results := [.lit (.bool true)], args := [d1, d2, d3] }
  | _ => none }
def fnExactRightInverseOfSumRow : OpenClaim := { program := "ytjmenocghjggcaa", sum := "362ede88944e281cf0e0c6380c18d6a30e79908a7c6011fd6cbccfeec1bd9072", func := "loop.example/g01195/laws.FnExactRightInverseOfSum", spec := "fnExactRightInverseOfSum", apart := false }
def FnExactRightInverseOfSumSaid : Prop := fnExactRightInverseOfSumRow.holds Try.pinned (OpenSpec.ofChange fnExactRightInverseOfSumSpec)

/-- ITS FALSE NEIGHBOUR: 'it returns false'. Refute it at one input. -/
def fnExactRightInverseOfSumWrong : ChangeSpec := { name := "fnExactRightInverseOfSum", fn := fun _ => fun
  | [d1, d2, d3] => { results := [.lit (.bool false)], args := [d1, d2, d3] }
  | _ => none }
def FnExactRightInverseOfSumWrongFalsely : Prop := fnExactRightInverseOfSumRow.holds Try.pinned (OpenSpec.ofChange fnExactRightInverseOfSumWrong)

/-- 'laws.FnExactIsZeroDivisor': WHATEVER THE INPUT: true; the input reads as it did. -/
def fnExactIsZeroDivisorSpec : ChangeSpec := { name := "fnExactIsZeroDivisor", fn := fun _ => fun
  | [d1, d2, d3] => { results := [.lit (.bool true)], args := [d1, d2, d3] }
  | _ => none }
def fnExactIsZeroDivisorRow : OpenClaim := { program := "ytjmenocghjggcaa", sum := "362ede88944e281cf0e0c6380c18d6a30e79908a7c6011fd6cbccfeec1bd9072", func := "loop.example/g01195/laws.FnExactIsZeroDivisor", spec := "fnExactIsZeroDivisor", apart := false }
def FnExactIsZeroDivisorSaid : Prop := fnExactIsZeroDivisorRow.holds Try.pinned (OpenSpec.ofChange fnExactIsZeroDivisorSpec)

/-- ITS FALSE NEIGHBOUR: 'it returns false'. Refute it at one input. -/
def fnExactIsZeroDivisorWrong : ChangeSpec := { name := "fnExactIsZeroDivisor", fn := fun _ => fun
  | [d1, d2, d3] => { results := [.lit (.bool false)], args := [d1, d2, d3] }
  | _ => none }
def FnExactIsZeroDivisorWrongFalsely : Prop := fnExactIsZeroDivisorRow.holds Try.pinned (OpenSpec.ofChange fnExactIsZeroDivisorWrong)

/-- 'laws.FnExactMateOf': WHATEVER THE INPUT: true; the input reads as it did. -/
def fnExactMateOfSpec : ChangeSpec := { name := "fnExactMateOf", fn := fun _ => fun
  | [d] => { results := [.lit (.bool true)], args := [d] }
  | _ => none }
def fnExactMateOfRow : OpenClaim := { program := "ytjmenocghjggcaa", sum := "362ede88944e281cf0e0c6380c18d6a30e79908a7c6011fd6cbccfeec1bd9072", func := "loop.example/g01195/laws.FnExactMateOf", spec := "fnExactMateOf", unfollowed := true, recurses := true, apart := false }
def FnExactMateOfSaid : Prop := fnExactMateOfRow.holds Try.pinned (OpenSpec.ofChange fnExactMateOfSpec)

/-- ITS FALSE NEIGHBOUR: 'it returns false'. Refute it at one input. -/
def fnExactMateOfWrong : ChangeSpec := { name := "fnExactMateOf", fn := fun _ => fun
  | [d] => { results := [.lit (.bool false)], args := [d] }
  | _ => none }
def FnExactMateOfWrongFalsely : Prop := fnExactMateOfRow.holds Try.pinned (OpenSpec.ofChange fnExactMateOfWrong)

/-- 'laws.FnExactMultiplicationOrder': WHATEVER THE INPUT: true; the input reads as it did. -/
def fnExactMultiplicationOrderSpec : ChangeSpec := { name := "fnExactMultiplicationOrder", fn := fun _ => fun
  | [d] => { results := [.lit (.bool true)], args := [d] }
  | _ => none }
def fnExactMultiplicationOrderRow : OpenClaim := { program := "ytjmenocghjggcaa", sum := "362ede88944e281cf0e0c6380c18d6a30e79908a7c6011fd6cbccfeec1bd9072", func := "loop.example/g01195/laws.FnExactMultiplicationOrder", spec := "fnExactMultiplicationOrder", recurses := true, apart := false }
def FnExactMultiplicationOrderSaid : Prop := fnExactMultiplicationOrderRow.holds Try.pinned (OpenSpec.ofChange fnExactMultiplicationOrderSpec)

/-- ITS FALSE NEIGHBOUR: 'it returns false'. Refute it at one input. -/
def fnExactMultiplicationOrderWrong : ChangeSpec := { name := "fnExactMultiplicationOrder", fn := fun _ => fun
  | [d] => { results := [.lit (.bool false)], args := [d] }
  | _ => none }
def FnExactMultiplicationOrderWrongFalsely : Prop := fnExactMultiplicationOrderRow.holds Try.pinned (OpenSpec.ofChange fnExactMultiplicationOrderWrong)

/- THE SECOND FORM. 'bulk': how many values and letters a reading holds, each counted each time it is reached (what is shared counts as often as it is met; a slice's spare places count too). A statement '..UptoSaid' is the law's where the arguments, and the package variables that the reading takes, are together of bulk at most 1048576: NARROWER than '..Said'. Prove '..Said' where nothing that the law and all that it calls make is longer than what came in: it says more and counts as full. Else prove '..UptoSaid'. A law counts once. -/
mutual
def uptoBulk {H : Type} : DataW H → Nat
  | .lit (.string bytes) => bytes.length + 1
  | .lit _ => 1
  | .nil => 1
  | .ptr d => uptoBulk d + 1
  | .slice elems spare => uptoBulkAll elems + uptoBulkAll spare + 1
  | .agg parts => uptoBulkAll parts + 1
  | .iface _ d => uptoBulk d + 1
  | .map entries => uptoBulkEntries entries + 1
  | .held _ => 1
def uptoBulkAll {H : Type} : List (DataW H) → Nat
  | [] => 0
  | d :: r => uptoBulk d + uptoBulkAll r
def uptoBulkEntries {H : Type} : List (Lit × DataW H) → Nat
  | [] => 0
  | x :: r => uptoBulkEntry x + uptoBulkEntries r
def uptoBulkEntry {H : Type} : Lit × DataW H → Nat
  | (.string bytes, d) => bytes.length + uptoBulk d + 1
  | (_, d) => uptoBulk d + 1
 end
def uptoSmall : (H : Type) → List (DataW H) → Bool := fun _ ds => decide (uptoBulkAll ds ≤ 1048576)
def OpenSpec.upto (s : _root_.Go.ChangeSpec) : _root_.Go.OpenSpec := { _root_.Go.OpenSpec.ofChange s with cond := some uptoSmall }

/-- 'laws.FnExactCountUnits', WHERE WHAT IT READS IS OF BULK AT MOST 1048576: true; the input reads as it did. -/
def fnExactCountUnitsUptoRow : OpenClaim := { program := "ytjmenocghjggcaa", sum := "362ede88944e281cf0e0c6380c18d6a30e79908a7c6011fd6cbccfeec1bd9072", func := "loop.example/g01195/laws.FnExactCountUnits", spec := "fnExactCountUnits", unfollowed := true, recurses := true, apart := false, narrowed := true }
def FnExactCountUnitsUptoSaid : Prop := fnExactCountUnitsUptoRow.holds Try.pinned (OpenSpec.upto fnExactCountUnitsSpec)

/-- 'laws.FnExactRightInverseOfSum', WHERE WHAT IT READS IS OF BULK AT MOST 1048576: true; the input reads as it did. -/
def fnExactRightInverseOfSumUptoRow : OpenClaim := { program := "ytjmenocghjggcaa", sum := "362ede88944e281cf0e0c6380c18d6a30e79908a7c6011fd6cbccfeec1bd9072", func := "loop.example/g01195/laws.FnExactRightInverseOfSum", spec := "fnExactRightInverseOfSum", apart := false, narrowed := true }
def FnExactRightInverseOfSumUptoSaid : Prop := fnExactRightInverseOfSumUptoRow.holds Try.pinned (OpenSpec.upto fnExactRightInverseOfSumSpec)

/-- 'laws.FnExactIsZeroDivisor', WHERE WHAT IT READS IS OF BULK AT MOST 1048576: true; the input reads as it did. -/
def fnExactIsZeroDivisorUptoRow : OpenClaim := { program := "ytjmenocghjggcaa", sum := "362ede88944e281cf0e0c6380c18d6a30e79908a7c6011fd6cbccfeec1bd9072", func := "loop.example/g01195/laws.FnExactIsZeroDivisor", spec := "fnExactIsZeroDivisor", apart := false, narrowed := true }
def FnExactIsZeroDivisorUptoSaid : Prop := fnExactIsZeroDivisorUptoRow.holds Try.pinned (OpenSpec.upto fnExactIsZeroDivisorSpec)

/-- 'laws.FnExactMateOf', WHERE WHAT IT READS IS OF BULK AT MOST 1048576: true; the input reads as it did. -/
def fnExactMateOfUptoRow : OpenClaim := { program := "ytjmenocghjggcaa", sum := "362ede88944e281cf0e0c6380c18d6a30e79908a7c6011fd6cbccfeec1bd9072", func := "loop.example/g01195/laws.FnExactMateOf", spec := "fnExactMateOf", unfollowed := true, recurses := true, apart := false, narrowed := true }
def FnExactMateOfUptoSaid : Prop := fnExactMateOfUptoRow.holds Try.pinned (OpenSpec.upto fnExactMateOfSpec)

/-- 'laws.FnExactMultiplicationOrder', WHERE WHAT IT READS IS OF BULK AT MOST 1048576: true; the input reads as it did. -/
def fnExactMultiplicationOrderUptoRow : OpenClaim := { program := "ytjmenocghjggcaa", sum := "362ede88944e281cf0e0c6380c18d6a30e79908a7c6011fd6cbccfeec1bd9072", func := "loop.example/g01195/laws.FnExactMultiplicationOrder", spec := "fnExactMultiplicationOrder", recurses := true, apart := false, narrowed := true }
def FnExactMultiplicationOrderUptoSaid : Prop := fnExactMultiplicationOrderUptoRow.holds Try.pinned (OpenSpec.upto fnExactMultiplicationOrderSpec)

end Rows
end Go.Proofs.Ytjmenocghjggcaa

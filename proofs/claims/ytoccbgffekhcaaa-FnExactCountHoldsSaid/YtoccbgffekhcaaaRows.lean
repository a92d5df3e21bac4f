/-
  No cell of these rows narrows 'for every input' (looked for: loops, veiled, ifaces, maps, wideKeys, modest, calm, conditions, laid).
  DERIVED. THE GIVEN ROWS OF THIS SEAT. 12 by the template 'for every input the law returns true; each argument reads behind the call as it read before'; 0 by the template 'total and deterministic' (their statements: YtoccbgffekhcaaaTotals.lean).
  GIVEN WITH THE SEED: the statements are not yours to turn. If you find one false, say at which input.
  Laid BY PROGRAM, IN A SANDBOX (cutbox-rows.mjs): the forced cells as the released guide's own fill.sh prints them over the translation 03ba9d4ca46a98d9… (all of the seat's roots in one cut). By AI agents, Wed Nov 11 2026. No macro, syntax, notation, axiom, sorry.
-/
import Derived.Test.YtoccbgffekhcaaaChecked
import GoSem.Claim
import GoSem.ClaimJoined
import GoSem.ClaimMapViews
import Derived.JoinedTies
import Derived.KernelRfl
namespace Go.Proofs.Ytoccbgffekhcaaa
/- THE CELL 'sum', in the pinned program and in every row, IS THE sha256 OF THE DUMP (.gsa) THAT YtoccbgffekhcaaaProg.lean LOADS. Nothing in Lean hashes anything: it is a label: what it is worth is what the hold of that sum in a sandbox is worth. -/
noncomputable def Try.pinned : Pinned := { name := "ytoccbgffekhcaaa", sum := "03ba9d4ca46a98d96874625956b4ba9e4e80d5221110eb659e95e772297b432e", checked := Try.checked }
namespace Rows
def none {H : Type} : Left H := { results := [], args := [] }

/-- 'laws.FnExactIsNormalSubloop': WHATEVER THE INPUT: true; the input reads as it did. -/
def fnExactIsNormalSubloopSpec : ChangeSpec := { name := "fnExactIsNormalSubloop", fn := fun _ => fun
  | [d1, d2] => { results := [.lit (.bool true)], args := [d1, d2] }
  | _ => none }
def fnExactIsNormalSubloopRow : OpenClaim := { program := "ytoccbgffekhcaaa", sum := "03ba9d4ca46a98d96874625956b4ba9e4e80d5221110eb659e95e772297b432e", func := "loop.example/g01195/laws.FnExactIsNormalSubloop", spec := "fnExactIsNormalSubloop", unfollowed := true, recurses := true, apart := false }
def FnExactIsNormalSubloopSaid : Prop := fnExactIsNormalSubloopRow.holds Try.pinned (OpenSpec.ofChange fnExactIsNormalSubloopSpec)

/-- ITS FALSE NEIGHBOUR: 'it returns false'. Refute it at one input. -/
def fnExactIsNormalSubloopWrong : ChangeSpec := { name := "fnExactIsNormalSubloop", fn := fun _ => fun
  | [d1, d2] => { results := [.lit (.bool false)], args := [d1, d2] }
  | _ => none }
def FnExactIsNormalSubloopWrongFalsely : Prop := fnExactIsNormalSubloopRow.holds Try.pinned (OpenSpec.ofChange fnExactIsNormalSubloopWrong)

/-- 'laws.FnExactNormalClosure': WHATEVER THE INPUT: true; the input reads as it did. -/
def fnExactNormalClosureSpec : ChangeSpec := { name := "fnExactNormalClosure", fn := fun _ => fun
  | [d1, d2] => { results := [.lit (.bool true)], args := [d1, d2] }
  | _ => none }
def fnExactNormalClosureRow : OpenClaim := { program := "ytoccbgffekhcaaa", sum := "03ba9d4ca46a98d96874625956b4ba9e4e80d5221110eb659e95e772297b432e", func := "loop.example/g01195/laws.FnExactNormalClosure", spec := "fnExactNormalClosure", unfollowed := true, recurses := true, apart := false }
def FnExactNormalClosureSaid : Prop := fnExactNormalClosureRow.holds Try.pinned (OpenSpec.ofChange fnExactNormalClosureSpec)

/-- ITS FALSE NEIGHBOUR: 'it returns false'. Refute it at one input. -/
def fnExactNormalClosureWrong : ChangeSpec := { name := "fnExactNormalClosure", fn := fun _ => fun
  | [d1, d2] => { results := [.lit (.bool false)], args := [d1, d2] }
  | _ => none }
def FnExactNormalClosureWrongFalsely : Prop := fnExactNormalClosureRow.holds Try.pinned (OpenSpec.ofChange fnExactNormalClosureWrong)

/-- 'laws.FnExactAssociatorSubloop': WHATEVER THE INPUT: true; the input reads as it did. -/
def fnExactAssociatorSubloopSpec : ChangeSpec := { name := "fnExactAssociatorSubloop", fn := fun _ => fun
  | [d] => { results := [.lit (.bool true)], args := [d] }
  | _ => none }
def fnExactAssociatorSubloopRow : OpenClaim := { program := "ytoccbgffekhcaaa", sum := "03ba9d4ca46a98d96874625956b4ba9e4e80d5221110eb659e95e772297b432e", func := "loop.example/g01195/laws.FnExactAssociatorSubloop", spec := "fnExactAssociatorSubloop", unfollowed := true, recurses := true, apart := false }
def FnExactAssociatorSubloopSaid : Prop := fnExactAssociatorSubloopRow.holds Try.pinned (OpenSpec.ofChange fnExactAssociatorSubloopSpec)

/-- ITS FALSE NEIGHBOUR: 'it returns false'. Refute it at one input. -/
def fnExactAssociatorSubloopWrong : ChangeSpec := { name := "fnExactAssociatorSubloop", fn := fun _ => fun
  | [d] => { results := [.lit (.bool false)], args := [d] }
  | _ => none }
def FnExactAssociatorSubloopWrongFalsely : Prop := fnExactAssociatorSubloopRow.holds Try.pinned (OpenSpec.ofChange fnExactAssociatorSubloopWrong)

/-- 'laws.FnExactDerivedSubloop': WHATEVER THE INPUT: true; the input reads as it did. -/
def fnExactDerivedSubloopSpec : ChangeSpec := { name := "fnExactDerivedSubloop", fn := fun _ => fun
  | [d] => { results := [.lit (.bool true)], args := [d] }
  | _ => none }
def fnExactDerivedSubloopRow : OpenClaim := { program := "ytoccbgffekhcaaa", sum := "03ba9d4ca46a98d96874625956b4ba9e4e80d5221110eb659e95e772297b432e", func := "loop.example/g01195/laws.FnExactDerivedSubloop", spec := "fnExactDerivedSubloop", unfollowed := true, recurses := true, apart := false }
def FnExactDerivedSubloopSaid : Prop := fnExactDerivedSubloopRow.holds Try.pinned (OpenSpec.ofChange fnExactDerivedSubloopSpec)

/-- ITS FALSE NEIGHBOUR: 'it returns false'. Refute it at one input. -/
def fnExactDerivedSubloopWrong : ChangeSpec := { name := "fnExactDerivedSubloop", fn := fun _ => fun
  | [d] => { results := [.lit (.bool false)], args := [d] }
  | _ => none }
def FnExactDerivedSubloopWrongFalsely : Prop := fnExactDerivedSubloopRow.holds Try.pinned (OpenSpec.ofChange fnExactDerivedSubloopWrong)

/-- 'laws.FnExactCongruenceOf': WHATEVER THE INPUT: true; the input reads as it did. -/
def fnExactCongruenceOfSpec : ChangeSpec := { name := "fnExactCongruenceOf", fn := fun _ => fun
  | [d1, d2, d3] => { results := [.lit (.bool true)], args := [d1, d2, d3] }
  | _ => none }
def fnExactCongruenceOfRow : OpenClaim := { program := "ytoccbgffekhcaaa", sum := "03ba9d4ca46a98d96874625956b4ba9e4e80d5221110eb659e95e772297b432e", func := "loop.example/g01195/laws.FnExactCongruenceOf", spec := "fnExactCongruenceOf", apart := false }
def FnExactCongruenceOfSaid : Prop := fnExactCongruenceOfRow.holds Try.pinned (OpenSpec.ofChange fnExactCongruenceOfSpec)

/-- ITS FALSE NEIGHBOUR: 'it returns false'. Refute it at one input. -/
def fnExactCongruenceOfWrong : ChangeSpec := { name := "fnExactCongruenceOf", fn := fun _ => fun
  | [d1, d2, d3] => { results := [.lit (.bool false)], args := [d1, d2, d3] }
  | _ => none }
def FnExactCongruenceOfWrongFalsely : Prop := fnExactCongruenceOfRow.holds Try.pinned (OpenSpec.ofChange fnExactCongruenceOfWrong)

/-- 'laws.FnExactMultiplicationOrder': WHATEVER THE INPUT: true; the input reads as it did. -/
def fnExactMultiplicationOrderSpec : ChangeSpec := { name := "fnExactMultiplicationOrder", fn := fun _ => fun
  | [d] => { results := [.lit (.bool true)], args := [d] }
  | _ => none }
def fnExactMultiplicationOrderRow : OpenClaim := { program := "ytoccbgffekhcaaa", sum := "03ba9d4ca46a98d96874625956b4ba9e4e80d5221110eb659e95e772297b432e", func := "loop.example/g01195/laws.FnExactMultiplicationOrder", spec := "fnExactMultiplicationOrder", recurses := true, apart := false }
def FnExactMultiplicationOrderSaid : Prop := fnExactMultiplicationOrderRow.holds Try.pinned (OpenSpec.ofChange fnExactMultiplicationOrderSpec)

/-- ITS FALSE NEIGHBOUR: 'it returns false'. Refute it at one input. -/
def fnExactMultiplicationOrderWrong : ChangeSpec := { name := "fnExactMultiplicationOrder", fn := fun _ => fun
  | [d] => { results := [.lit (.bool false)], args := [d] }
  | _ => none }
def FnExactMultiplicationOrderWrongFalsely : Prop := fnExactMultiplicationOrderRow.holds Try.pinned (OpenSpec.ofChange fnExactMultiplicationOrderWrong)

/-- 'laws.FnExactTriplesOfLoop': WHATEVER THE INPUT: true; the input reads as it did. -/
def fnExactTriplesOfLoopSpec : ChangeSpec := { name := "fnExactTriplesOfLoop", fn := fun _ => fun
  | [d] => { results := [.lit (.bool true)], args := [d] }
  | _ => none }
def fnExactTriplesOfLoopRow : OpenClaim := { program := "ytoccbgffekhcaaa", sum := "03ba9d4ca46a98d96874625956b4ba9e4e80d5221110eb659e95e772297b432e", func := "loop.example/g01195/laws.FnExactTriplesOfLoop", spec := "fnExactTriplesOfLoop", unfollowed := true, recurses := true, apart := false }
def FnExactTriplesOfLoopSaid : Prop := fnExactTriplesOfLoopRow.holds Try.pinned (OpenSpec.ofChange fnExactTriplesOfLoopSpec)

/-- ITS FALSE NEIGHBOUR: 'it returns false'. Refute it at one input. -/
def fnExactTriplesOfLoopWrong : ChangeSpec := { name := "fnExactTriplesOfLoop", fn := fun _ => fun
  | [d] => { results := [.lit (.bool false)], args := [d] }
  | _ => none }
def FnExactTriplesOfLoopWrongFalsely : Prop := fnExactTriplesOfLoopRow.holds Try.pinned (OpenSpec.ofChange fnExactTriplesOfLoopWrong)

/-- 'laws.FnExactTermValue': WHATEVER THE INPUT: true; the input reads as it did. -/
def fnExactTermValueSpec : ChangeSpec := { name := "fnExactTermValue", fn := fun _ => fun
  | [d1, d2, d3, d4, d5] => { results := [.lit (.bool true)], args := [d1, d2, d3, d4, d5] }
  | _ => none }
def fnExactTermValueRow : OpenClaim := { program := "ytoccbgffekhcaaa", sum := "03ba9d4ca46a98d96874625956b4ba9e4e80d5221110eb659e95e772297b432e", func := "loop.example/g01195/laws.FnExactTermValue", spec := "fnExactTermValue", apart := false }
def FnExactTermValueSaid : Prop := fnExactTermValueRow.holds Try.pinned (OpenSpec.ofChange fnExactTermValueSpec)

/-- ITS FALSE NEIGHBOUR: 'it returns false'. Refute it at one input. -/
def fnExactTermValueWrong : ChangeSpec := { name := "fnExactTermValue", fn := fun _ => fun
  | [d1, d2, d3, d4, d5] => { results := [.lit (.bool false)], args := [d1, d2, d3, d4, d5] }
  | _ => none }
def FnExactTermValueWrongFalsely : Prop := fnExactTermValueRow.holds Try.pinned (OpenSpec.ofChange fnExactTermValueWrong)

/-- 'laws.FnExactCountHolds': WHATEVER THE INPUT: true; the input reads as it did. -/
def fnExactCountHoldsSpec : ChangeSpec := { name := "fnExactCountHolds", fn := fun _ => fun
  | [d1, d2] => { results := [.lit (.bool true)], args := [d1, d2] }
  | _ => none }
def fnExactCountHoldsRow : OpenClaim := { program := "ytoccbgffekhcaaa", sum := "03ba9d4ca46a98d96874625956b4ba9e4e80d5221110eb659e95e772297b432e", func := "loop.example/g01195/laws.FnExactCountHolds", spec := "fnExactCountHolds", unfollowed := true, recurses := true, apart := false }
def FnExactCountHoldsSaid : Prop := fnExactCountHoldsRow.holds Try.pinned (OpenSpec.ofChange fnExactCountHoldsSpec)

/-- ITS FALSE NEIGHBOUR: 'it returns false'. Refute it at one input. -/
def fnExactCountHoldsWrong : ChangeSpec := { name := "fnExactCountHolds", fn := fun _ => fun
  | [d1, d2] => { results := [.lit (.bool false)], args := [d1, d2] }
  | _ => none }
def FnExactCountHoldsWrongFalsely : Prop := fnExactCountHoldsRow.holds Try.pinned (OpenSpec.ofChange fnExactCountHoldsWrong)

/-- 'laws.FnExactHoldsIn': WHATEVER THE INPUT: true; the input reads as it did. -/
def fnExactHoldsInSpec : ChangeSpec := { name := "fnExactHoldsIn", fn := fun _ => fun
  | [d1, d2] => { results := [.lit (.bool true)], args := [d1, d2] }
  | _ => none }
def fnExactHoldsInRow : OpenClaim := { program := "ytoccbgffekhcaaa", sum := "03ba9d4ca46a98d96874625956b4ba9e4e80d5221110eb659e95e772297b432e", func := "loop.example/g01195/laws.FnExactHoldsIn", spec := "fnExactHoldsIn", unfollowed := true, recurses := true, apart := false }
def FnExactHoldsInSaid : Prop := fnExactHoldsInRow.holds Try.pinned (OpenSpec.ofChange fnExactHoldsInSpec)

/-- ITS FALSE NEIGHBOUR: 'it returns false'. Refute it at one input. -/
def fnExactHoldsInWrong : ChangeSpec := { name := "fnExactHoldsIn", fn := fun _ => fun
  | [d1, d2] => { results := [.lit (.bool false)], args := [d1, d2] }
  | _ => none }
def FnExactHoldsInWrongFalsely : Prop := fnExactHoldsInRow.holds Try.pinned (OpenSpec.ofChange fnExactHoldsInWrong)

/-- 'laws.FnExactTransversalsOf': WHATEVER THE INPUT: true; the input reads as it did. -/
def fnExactTransversalsOfSpec : ChangeSpec := { name := "fnExactTransversalsOf", fn := fun _ => fun
  | [d1, d2] => { results := [.lit (.bool true)], args := [d1, d2] }
  | _ => none }
def fnExactTransversalsOfRow : OpenClaim := { program := "ytoccbgffekhcaaa", sum := "03ba9d4ca46a98d96874625956b4ba9e4e80d5221110eb659e95e772297b432e", func := "loop.example/g01195/laws.FnExactTransversalsOf", spec := "fnExactTransversalsOf", unfollowed := true, recurses := true, apart := false }
def FnExactTransversalsOfSaid : Prop := fnExactTransversalsOfRow.holds Try.pinned (OpenSpec.ofChange fnExactTransversalsOfSpec)

/-- ITS FALSE NEIGHBOUR: 'it returns false'. Refute it at one input. -/
def fnExactTransversalsOfWrong : ChangeSpec := { name := "fnExactTransversalsOf", fn := fun _ => fun
  | [d1, d2] => { results := [.lit (.bool false)], args := [d1, d2] }
  | _ => none }
def FnExactTransversalsOfWrongFalsely : Prop := fnExactTransversalsOfRow.holds Try.pinned (OpenSpec.ofChange fnExactTransversalsOfWrong)

/-- 'laws.FnExactMateOf': WHATEVER THE INPUT: true; the input reads as it did. -/
def fnExactMateOfSpec : ChangeSpec := { name := "fnExactMateOf", fn := fun _ => fun
  | [d] => { results := [.lit (.bool true)], args := [d] }
  | _ => none }
def fnExactMateOfRow : OpenClaim := { program := "ytoccbgffekhcaaa", sum := "03ba9d4ca46a98d96874625956b4ba9e4e80d5221110eb659e95e772297b432e", func := "loop.example/g01195/laws.FnExactMateOf", spec := "fnExactMateOf", unfollowed := true, recurses := true, apart := false }
def FnExactMateOfSaid : Prop := fnExactMateOfRow.holds Try.pinned (OpenSpec.ofChange fnExactMateOfSpec)

/-- ITS FALSE NEIGHBOUR: 'it returns false'. Refute it at one input. -/
def fnExactMateOfWrong : ChangeSpec := { name := "fnExactMateOf", fn := fun _ => fun
  | [d] => { results := [.lit (.bool false)], args := [d] }
  | _ => none }
def FnExactMateOfWrongFalsely : Prop := fnExactMateOfRow.holds Try.pinned (OpenSpec.ofChange fnExactMateOfWrong)

/- THE SECOND FORM. 'bulk': how many values and letters a reading holds, each counted each time it is reached (what is shared counts as often as it is met; a slice's spare places count too). A statement '..UptoSaid' is the law's where the arguments, and the package variables that the reading takes, are together of bulk at most 1048576: NARROWER than '..Said'. Prove '..Said' where nothing that the law and all that it calls make is longer than what came in: it says more and counts as full. Else prove '..UptoSaid'. A law counts once. -/
mutual
def uptoBulk {H : Type} : DataW H → Nat
  | .lit (.string bytes) => bytes.length + 1
  | .lit _ => 1
  | .nil => 1
  | .ptr d => uptoBulk d + 1
  | .slice elems spare => uptoBulkAll elems + uptoBulkAll spare + 1
  | .agg parts => uptoBulkAll parts + 1
  | .iface _ d => uptoBulk d + 1
  | .map entries => uptoBulkEntries entries + 1
  | .held _ => 1
def uptoBulkAll {H : Type} : List (DataW H) → Nat
  | [] => 0
  | d :: r => uptoBulk d + uptoBulkAll r
def uptoBulkEntries {H : Type} : List (Lit × DataW H) → Nat
  | [] => 0
  | x :: r => uptoBulkEntry x + uptoBulkEntries r
def uptoBulkEntry {H : Type} : Lit × DataW H → Nat
  | (.string bytes, d) => bytes.length + uptoBulk d + 1
  | (_, d) => uptoBulk d + 1
 end
def uptoSmall : (H : Type) → List (DataW H) → Bool := fun _ ds => decide (uptoBulkAll ds ≤ 1048576)
def OpenSpec.upto (s : _root_.Go.ChangeSpec) : _root_.Go.OpenSpec := { _root_.Go.OpenSpec.ofChange s with cond := some uptoSmall }

/-- 'laws.FnExactIsNormalSubloop', WHERE WHAT IT READS IS OF BULK AT MOST 1048576: true; the input reads as it did. -/
def fnExactIsNormalSubloopUptoRow : OpenClaim := { program := "ytoccbgffekhcaaa", sum := "03ba9d4ca46a98d96874625956b4ba9e4e80d5221110eb659e95e772297b432e", func := "loop.example/g01195/laws.FnExactIsNormalSubloop", spec := "fnExactIsNormalSubloop", unfollowed := true, recurses := true, apart := false, narrowed := true }
def FnExactIsNormalSubloopUptoSaid : Prop := fnExactIsNormalSubloopUptoRow.holds Try.pinned (OpenSpec.upto fnExactIsNormalSubloopSpec)

/-- 'laws.FnExactNormalClosure', WHERE WHAT IT READS IS OF BULK AT MOST 1048576: true; the input reads as it did. -/
def fnExactNormalClosureUptoRow : OpenClaim := { program := "ytoccbgffekhcaaa", sum := "03ba9d4ca46a98d96874625956b4ba9e4e80d5221110eb659e95e772297b432e", func := "loop.example/g01195/laws.FnExactNormalClosure", spec := "fnExactNormalClosure", unfollowed := true, recurses := true, apart := false, narrowed := true }
def FnExactNormalClosureUptoSaid : Prop := fnExactNormalClosureUptoRow.holds Try.pinned (OpenSpec.upto fnExactNormalClosureSpec)

/-- 'laws.FnExactAssociatorSubloop', WHERE WHAT IT READS IS OF BULK AT MOST 1048576: true; the input reads as it did. -/
def fnExactAssociatorSubloopUptoRow : OpenClaim := { program := "ytoccbgffekhcaaa", sum := "03ba9d4ca46a98d96874625956b4ba9e4e80d5221110eb659e95e772297b432e", func := "loop.example/g01195/laws.FnExactAssociatorSubloop", spec := "fnExactAssociatorSubloop", unfollowed := true, recurses := true, apart := false, narrowed := true }
def FnExactAssociatorSubloopUptoSaid : Prop := fnExactAssociatorSubloopUptoRow.holds Try.pinned (OpenSpec.upto fnExactAssociatorSubloopSpec)

/-- 'laws.FnExactDerivedSubloop', WHERE WHAT IT READS IS OF BULK AT MOST 1048576: true; the input reads as it did. -/
def fnExactDerivedSubloopUptoRow : OpenClaim := { program := "ytoccbgffekhcaaa", sum := "03ba9d4ca46a98d96874625956b4ba9e4e80d5221110eb659e95e772297b432e", func := "loop.example/g01195/laws.FnExactDerivedSubloop", spec := "fnExactDerivedSubloop", unfollowed := true, recurses := true, apart := false, narrowed := true }
def FnExactDerivedSubloopUptoSaid : Prop := fnExactDerivedSubloopUptoRow.holds Try.pinned (OpenSpec.upto fnExactDerivedSubloopSpec)

/-- 'laws.FnExactCongruenceOf', WHERE WHAT IT READS IS OF BULK AT MOST 1048576: true; the input reads as it did. -/
def fnExactCongruenceOfUptoRow : OpenClaim := { program := "ytoccbgffekhcaaa", sum := "03ba9d4ca46a98d96874625956b4ba9e4e80d5221110eb659e95e772297b432e", func := "loop.example/g01195/laws.FnExactCongruenceOf", spec := "fnExactCongruenceOf", apart := false, narrowed := true }
def FnExactCongruenceOfUptoSaid : Prop := fnExactCongruenceOfUptoRow.holds Try.pinned (OpenSpec.upto fnExactCongruenceOfSpec)

/-- 'laws.FnExactMultiplicationOrder', WHERE WHAT IT READS IS OF BULK AT MOST 1048576: true; the input reads as it did. -/
def fnExactMultiplicationOrderUptoRow : OpenClaim := { program := "ytoccbgffekhcaaa", sum := "03ba9d4ca46a98d96874625956b4ba9e4e80d5221110eb659e95e772297b432e", func := "loop.example/g01195/laws.FnExactMultiplicationOrder", spec := "fnExactMultiplicationOrder", recurses := true, apart := false, narrowed := true }
def FnExactMultiplicationOrderUptoSaid : Prop := fnExactMultiplicationOrderUptoRow.holds Try.pinned (OpenSpec.upto fnExactMultiplicationOrderSpec)

/-- 'laws.FnExactTriplesOfLoop', WHERE WHAT IT READS IS OF BULK AT MOST 1048576: true; the input reads as it did. -/
def fnExactTriplesOfLoopUptoRow : OpenClaim := { program := "ytoccbgffekhcaaa", sum := "03ba9d4ca46a98d96874625956b4ba9e4e80d5221110eb659e95e772297b432e", func := "loop.example/g01195/laws.FnExactTriplesOfLoop", spec := "fnExactTriplesOfLoop", unfollowed := true, recurses := true, apart := false, narrowed := true }
def FnExactTriplesOfLoopUptoSaid : Prop := fnExactTriplesOfLoopUptoRow.holds Try.pinned (OpenSpec.upto fnExactTriplesOfLoopSpec)

/-- 'laws.FnExactTermValue', WHERE WHAT IT READS IS OF BULK AT MOST 1048576: true; the input reads as it did. -/
def fnExactTermValueUptoRow : OpenClaim := { program := "ytoccbgffekhcaaa", sum := "03ba9d4ca46a98d96874625956b4ba9e4e80d5221110eb659e95e772297b432e", func := "loop.example/g01195/laws.FnExactTermValue", spec := "fnExactTermValue", apart := false, narrowed := true }
def FnExactTermValueUptoSaid : Prop := fnExactTermValueUptoRow.holds Try.pinned (OpenSpec.upto fnExactTermValueSpec)

/-- 'laws.FnExactCountHolds', WHERE WHAT IT READS IS OF BULK AT MOST 1048576: true; the input reads as it did. -/
def fnExactCountHoldsUptoRow : OpenClaim := { program := "ytoccbgffekhcaaa", sum := "03ba9d4ca46a98d96874625956b4ba9e4e80d5221110eb659e95e772297b432e", func := "loop.example/g01195/laws.FnExactCountHolds", spec := "fnExactCountHolds", unfollowed := true, recurses := true, apart := false, narrowed := true }
def FnExactCountHoldsUptoSaid : Prop := fnExactCountHoldsUptoRow.holds Try.pinned (OpenSpec.upto fnExactCountHoldsSpec)

/-- 'laws.FnExactHoldsIn', WHERE WHAT IT READS IS OF BULK AT MOST 1048576: true; the input reads as it did. -/
def fnExactHoldsInUptoRow : OpenClaim := { program := "ytoccbgffekhcaaa", sum := "03ba9d4ca46a98d96874625956b4ba9e4e80d5221110eb659e95e772297b432e", func := "loop.example/g01195/laws.FnExactHoldsIn", spec := "fnExactHoldsIn", unfollowed := true, recurses := true, apart := false, narrowed := true }
def FnExactHoldsInUptoSaid : Prop := fnExactHoldsInUptoRow.holds Try.pinned (OpenSpec.upto fnExactHoldsInSpec)

/-- 'laws.FnExactTransversalsOf', WHERE WHAT IT READS IS OF BULK AT MOST 1048576: true; the input reads as it did. -/
def fnExactTransversalsOfUptoRow : OpenClaim := { program := "ytoccbgffekhcaaa", sum := "03ba9d4ca46a98d96874625956b4ba9e4e80d5221110eb659e95e772297b432e", func := "loop.example/g01195/laws.FnExactTransversalsOf", spec := "fnExactTransversalsOf", unfollowed := true, recurses := true, apart := false, narrowed := true }
def FnExactTransversalsOfUptoSaid : Prop := fnExactTransversalsOfUptoRow.holds Try.pinned (OpenSpec.upto fnExactTransversalsOfSpec)

/-- 'laws.FnExactMateOf', WHERE WHAT IT READS IS OF BULK AT MOST 1048576: true; the input reads as it did. -/
def fnExactMateOfUptoRow : OpenClaim := { program := "ytoccbgffekhcaaa", sum := "03ba9d4ca46a98d96874625956b4ba9e4e80d5221110eb659e95e772297b432e", func := "loop.example/g01195/laws.FnExactMateOf", spec := "fnExactMateOf", unfollowed := true, recurses := true, apart := false, narrowed := true }
def FnExactMateOfUptoSaid : Prop := fnExactMateOfUptoRow.holds Try.pinned (OpenSpec.upto fnExactMateOfSpec)

end Rows
end Go.Proofs.Ytoccbgffekhcaaa

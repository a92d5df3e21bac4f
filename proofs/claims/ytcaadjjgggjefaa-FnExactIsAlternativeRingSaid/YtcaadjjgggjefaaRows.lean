/-
  No cell of these rows narrows 'for every input' (looked for: loops, veiled, ifaces, maps, wideKeys, modest, calm, conditions, laid).
  DERIVED. THE GIVEN ROWS OF THIS SEAT. 12 by the template 'for every input the law returns true; each argument reads behind the call as it read before'; 0 by the template 'total and deterministic' (their statements: YtcaadjjgggjefaaTotals.lean).
  GIVEN WITH THE SEED: the statements are not yours to turn. If you find one false, say at which input.
  Laid BY PROGRAM, IN A SANDBOX (cutbox-rows.mjs): the forced cells as the released guide's own fill.sh prints them over the translation 22d1848a4d91d977… (all of the seat's roots in one cut). By AI agents, Wed Nov 11 2026. No macro, syntax, notation, axiom, sorry.
-/
import Derived.Test.YtcaadjjgggjefaaChecked
import GoSem.Claim
import GoSem.ClaimJoined
import GoSem.ClaimMapViews
import Derived.JoinedTies
import Derived.KernelRfl
namespace Go.Proofs.Ytcaadjjgggjefaa
/- THE CELL 'sum', in the pinned program and in every row, IS THE sha256 OF THE DUMP (.gsa) THAT YtcaadjjgggjefaaProg.lean LOADS. Nothing in Lean hashes anything: it is a label: what it is worth is what the hold of that sum in a sandbox is worth. -/
noncomputable def Try.pinned : Pinned := { name := "ytcaadjjgggjefaa", sum := "22d1848a4d91d977466198eccc102e94fa6a2d2c98368bf7a64e2e99ea73a27b", checked := Try.checked }
namespace Rows
def none {H : Type} : Left H := { results := [], args := [] }

/-- 'laws.FnExactPowerWitness': WHATEVER THE INPUT: true; the input reads as it did. -/
def fnExactPowerWitnessSpec : ChangeSpec := { name := "fnExactPowerWitness", fn := fun _ => fun
  | [d] => { results := [.lit (.bool true)], args := [d] }
  | _ => none }
def fnExactPowerWitnessRow : OpenClaim := { program := "ytcaadjjgggjefaa", sum := "22d1848a4d91d977466198eccc102e94fa6a2d2c98368bf7a64e2e99ea73a27b", func := "loop.example/g01195/laws.FnExactPowerWitness", spec := "fnExactPowerWitness", unfollowed := true, recurses := true, apart := false }
def FnExactPowerWitnessSaid : Prop := fnExactPowerWitnessRow.holds Try.pinned (OpenSpec.ofChange fnExactPowerWitnessSpec)

/-- ITS FALSE NEIGHBOUR: 'it returns false'. Refute it at one input. -/
def fnExactPowerWitnessWrong : ChangeSpec := { name := "fnExactPowerWitness", fn := fun _ => fun
  | [d] => { results := [.lit (.bool false)], args := [d] }
  | _ => none }
def FnExactPowerWitnessWrongFalsely : Prop := fnExactPowerWitnessRow.holds Try.pinned (OpenSpec.ofChange fnExactPowerWitnessWrong)

/-- 'laws.FnExactPairWitness': WHATEVER THE INPUT: true; the input reads as it did. -/
def fnExactPairWitnessSpec : ChangeSpec := { name := "fnExactPairWitness", fn := fun _ => fun
  | [d] => { results := [.lit (.bool true)], args := [d] }
  | _ => none }
def fnExactPairWitnessRow : OpenClaim := { program := "ytcaadjjgggjefaa", sum := "22d1848a4d91d977466198eccc102e94fa6a2d2c98368bf7a64e2e99ea73a27b", func := "loop.example/g01195/laws.FnExactPairWitness", spec := "fnExactPairWitness", unfollowed := true, recurses := true, apart := false }
def FnExactPairWitnessSaid : Prop := fnExactPairWitnessRow.holds Try.pinned (OpenSpec.ofChange fnExactPairWitnessSpec)

/-- ITS FALSE NEIGHBOUR: 'it returns false'. Refute it at one input. -/
def fnExactPairWitnessWrong : ChangeSpec := { name := "fnExactPairWitness", fn := fun _ => fun
  | [d] => { results := [.lit (.bool false)], args := [d] }
  | _ => none }
def FnExactPairWitnessWrongFalsely : Prop := fnExactPairWitnessRow.holds Try.pinned (OpenSpec.ofChange fnExactPairWitnessWrong)

/-- 'laws.FnExactClassOf': WHATEVER THE INPUT: true; the input reads as it did. -/
def fnExactClassOfSpec : ChangeSpec := { name := "fnExactClassOf", fn := fun _ => fun
  | [d] => { results := [.lit (.bool true)], args := [d] }
  | _ => none }
def fnExactClassOfRow : OpenClaim := { program := "ytcaadjjgggjefaa", sum := "22d1848a4d91d977466198eccc102e94fa6a2d2c98368bf7a64e2e99ea73a27b", func := "loop.example/g01195/laws.FnExactClassOf", spec := "fnExactClassOf", unfollowed := true, recurses := true, apart := false }
def FnExactClassOfSaid : Prop := fnExactClassOfRow.holds Try.pinned (OpenSpec.ofChange fnExactClassOfSpec)

/-- ITS FALSE NEIGHBOUR: 'it returns false'. Refute it at one input. -/
def fnExactClassOfWrong : ChangeSpec := { name := "fnExactClassOf", fn := fun _ => fun
  | [d] => { results := [.lit (.bool false)], args := [d] }
  | _ => none }
def FnExactClassOfWrongFalsely : Prop := fnExactClassOfRow.holds Try.pinned (OpenSpec.ofChange fnExactClassOfWrong)

/-- 'laws.FnExactCanonicalLoop': WHATEVER THE INPUT: true; the input reads as it did. -/
def fnExactCanonicalLoopSpec : ChangeSpec := { name := "fnExactCanonicalLoop", fn := fun _ => fun
  | [d] => { results := [.lit (.bool true)], args := [d] }
  | _ => none }
def fnExactCanonicalLoopRow : OpenClaim := { program := "ytcaadjjgggjefaa", sum := "22d1848a4d91d977466198eccc102e94fa6a2d2c98368bf7a64e2e99ea73a27b", func := "loop.example/g01195/laws.FnExactCanonicalLoop", spec := "fnExactCanonicalLoop", inPlace := ["internal/bytealg.Compare"], unfollowed := true, recurses := true, apart := false }
def FnExactCanonicalLoopSaid : Prop := fnExactCanonicalLoopRow.holds Try.pinned (OpenSpec.ofChange fnExactCanonicalLoopSpec)

/-- ITS FALSE NEIGHBOUR: 'it returns false'. Refute it at one input. -/
def fnExactCanonicalLoopWrong : ChangeSpec := { name := "fnExactCanonicalLoop", fn := fun _ => fun
  | [d] => { results := [.lit (.bool false)], args := [d] }
  | _ => none }
def FnExactCanonicalLoopWrongFalsely : Prop := fnExactCanonicalLoopRow.holds Try.pinned (OpenSpec.ofChange fnExactCanonicalLoopWrong)

/-- 'laws.FnExactCanonicalIsotope': WHATEVER THE INPUT: true; the input reads as it did. -/
def fnExactCanonicalIsotopeSpec : ChangeSpec := { name := "fnExactCanonicalIsotope", fn := fun _ => fun
  | [d] => { results := [.lit (.bool true)], args := [d] }
  | _ => none }
def fnExactCanonicalIsotopeRow : OpenClaim := { program := "ytcaadjjgggjefaa", sum := "22d1848a4d91d977466198eccc102e94fa6a2d2c98368bf7a64e2e99ea73a27b", func := "loop.example/g01195/laws.FnExactCanonicalIsotope", spec := "fnExactCanonicalIsotope", inPlace := ["internal/bytealg.Compare"], unfollowed := true, recurses := true, apart := false }
def FnExactCanonicalIsotopeSaid : Prop := fnExactCanonicalIsotopeRow.holds Try.pinned (OpenSpec.ofChange fnExactCanonicalIsotopeSpec)

/-- ITS FALSE NEIGHBOUR: 'it returns false'. Refute it at one input. -/
def fnExactCanonicalIsotopeWrong : ChangeSpec := { name := "fnExactCanonicalIsotope", fn := fun _ => fun
  | [d] => { results := [.lit (.bool false)], args := [d] }
  | _ => none }
def FnExactCanonicalIsotopeWrongFalsely : Prop := fnExactCanonicalIsotopeRow.holds Try.pinned (OpenSpec.ofChange fnExactCanonicalIsotopeWrong)

/-- 'laws.FnExactUpperSeries': WHATEVER THE INPUT: true; the input reads as it did. -/
def fnExactUpperSeriesSpec : ChangeSpec := { name := "fnExactUpperSeries", fn := fun _ => fun
  | [d] => { results := [.lit (.bool true)], args := [d] }
  | _ => none }
def fnExactUpperSeriesRow : OpenClaim := { program := "ytcaadjjgggjefaa", sum := "22d1848a4d91d977466198eccc102e94fa6a2d2c98368bf7a64e2e99ea73a27b", func := "loop.example/g01195/laws.FnExactUpperSeries", spec := "fnExactUpperSeries", unfollowed := true, recurses := true, apart := false }
def FnExactUpperSeriesSaid : Prop := fnExactUpperSeriesRow.holds Try.pinned (OpenSpec.ofChange fnExactUpperSeriesSpec)

/-- ITS FALSE NEIGHBOUR: 'it returns false'. Refute it at one input. -/
def fnExactUpperSeriesWrong : ChangeSpec := { name := "fnExactUpperSeries", fn := fun _ => fun
  | [d] => { results := [.lit (.bool false)], args := [d] }
  | _ => none }
def FnExactUpperSeriesWrongFalsely : Prop := fnExactUpperSeriesRow.holds Try.pinned (OpenSpec.ofChange fnExactUpperSeriesWrong)

/-- 'laws.FnExactAssociatorOfSums': WHATEVER THE INPUT: true; the input reads as it did. -/
def fnExactAssociatorOfSumsSpec : ChangeSpec := { name := "fnExactAssociatorOfSums", fn := fun _ => fun
  | [d1, d2, d3, d4, d5] => { results := [.lit (.bool true)], args := [d1, d2, d3, d4, d5] }
  | _ => none }
def fnExactAssociatorOfSumsRow : OpenClaim := { program := "ytcaadjjgggjefaa", sum := "22d1848a4d91d977466198eccc102e94fa6a2d2c98368bf7a64e2e99ea73a27b", func := "loop.example/g01195/laws.FnExactAssociatorOfSums", spec := "fnExactAssociatorOfSums", apart := false }
def FnExactAssociatorOfSumsSaid : Prop := fnExactAssociatorOfSumsRow.holds Try.pinned (OpenSpec.ofChange fnExactAssociatorOfSumsSpec)

/-- ITS FALSE NEIGHBOUR: 'it returns false'. Refute it at one input. -/
def fnExactAssociatorOfSumsWrong : ChangeSpec := { name := "fnExactAssociatorOfSums", fn := fun _ => fun
  | [d1, d2, d3, d4, d5] => { results := [.lit (.bool false)], args := [d1, d2, d3, d4, d5] }
  | _ => none }
def FnExactAssociatorOfSumsWrongFalsely : Prop := fnExactAssociatorOfSumsRow.holds Try.pinned (OpenSpec.ofChange fnExactAssociatorOfSumsWrong)

/-- 'laws.FnExactIsAlternativeRing': WHATEVER THE INPUT: true; the input reads as it did. -/
def fnExactIsAlternativeRingSpec : ChangeSpec := { name := "fnExactIsAlternativeRing", fn := fun _ => fun
  | [d1, d2] => { results := [.lit (.bool true)], args := [d1, d2] }
  | _ => none }
def fnExactIsAlternativeRingRow : OpenClaim := { program := "ytcaadjjgggjefaa", sum := "22d1848a4d91d977466198eccc102e94fa6a2d2c98368bf7a64e2e99ea73a27b", func := "loop.example/g01195/laws.FnExactIsAlternativeRing", spec := "fnExactIsAlternativeRing", unfollowed := true, recurses := true, apart := false }
def FnExactIsAlternativeRingSaid : Prop := fnExactIsAlternativeRingRow.holds Try.pinned (OpenSpec.ofChange fnExactIsAlternativeRingSpec)

/-- ITS FALSE NEIGHBOUR: 'it returns false'. Refute it at one input. -/
def fnExactIsAlternativeRingWrong : ChangeSpec := { name := "fnExactIsAlternativeRing", fn := fun _ => fun
  | [d1, d2] => { results := [.lit (.bool false)], args := [d1, d2] }
  | _ => none }
def FnExactIsAlternativeRingWrongFalsely : Prop := fnExactIsAlternativeRingRow.holds Try.pinned (OpenSpec.ofChange fnExactIsAlternativeRingWrong)

/-- 'laws.FnExactExtendLoop': WHATEVER THE INPUT: true; the input reads as it did. -/
def fnExactExtendLoopSpec : ChangeSpec := { name := "fnExactExtendLoop", fn := fun _ => fun
  | [d1, d2, d3] => { results := [.lit (.bool true)], args := [d1, d2, d3] }
  | _ => none }
def fnExactExtendLoopRow : OpenClaim := { program := "ytcaadjjgggjefaa", sum := "22d1848a4d91d977466198eccc102e94fa6a2d2c98368bf7a64e2e99ea73a27b", func := "loop.example/g01195/laws.FnExactExtendLoop", spec := "fnExactExtendLoop", unfollowed := true, recurses := true, apart := false }
def FnExactExtendLoopSaid : Prop := fnExactExtendLoopRow.holds Try.pinned (OpenSpec.ofChange fnExactExtendLoopSpec)

/-- ITS FALSE NEIGHBOUR: 'it returns false'. Refute it at one input. -/
def fnExactExtendLoopWrong : ChangeSpec := { name := "fnExactExtendLoop", fn := fun _ => fun
  | [d1, d2, d3] => { results := [.lit (.bool false)], args := [d1, d2, d3] }
  | _ => none }
def FnExactExtendLoopWrongFalsely : Prop := fnExactExtendLoopRow.holds Try.pinned (OpenSpec.ofChange fnExactExtendLoopWrong)

/-- 'laws.FnExactSquareOfLists': WHATEVER THE INPUT: true; the input reads as it did. -/
def fnExactSquareOfListsSpec : ChangeSpec := { name := "fnExactSquareOfLists", fn := fun _ => fun
  | [d] => { results := [.lit (.bool true)], args := [d] }
  | _ => none }
def fnExactSquareOfListsRow : OpenClaim := { program := "ytcaadjjgggjefaa", sum := "22d1848a4d91d977466198eccc102e94fa6a2d2c98368bf7a64e2e99ea73a27b", func := "loop.example/g01195/laws.FnExactSquareOfLists", spec := "fnExactSquareOfLists", unfollowed := true, recurses := true, apart := false }
def FnExactSquareOfListsSaid : Prop := fnExactSquareOfListsRow.holds Try.pinned (OpenSpec.ofChange fnExactSquareOfListsSpec)

/-- ITS FALSE NEIGHBOUR: 'it returns false'. Refute it at one input. -/
def fnExactSquareOfListsWrong : ChangeSpec := { name := "fnExactSquareOfLists", fn := fun _ => fun
  | [d] => { results := [.lit (.bool false)], args := [d] }
  | _ => none }
def FnExactSquareOfListsWrongFalsely : Prop := fnExactSquareOfListsRow.holds Try.pinned (OpenSpec.ofChange fnExactSquareOfListsWrong)

/-- 'laws.FnExactTripleSquare': WHATEVER THE INPUT: true; the input reads as it did. -/
def fnExactTripleSquareSpec : ChangeSpec := { name := "fnExactTripleSquare", fn := fun _ => fun
  | [d1, d2] => { results := [.lit (.bool true)], args := [d1, d2] }
  | _ => none }
def fnExactTripleSquareRow : OpenClaim := { program := "ytcaadjjgggjefaa", sum := "22d1848a4d91d977466198eccc102e94fa6a2d2c98368bf7a64e2e99ea73a27b", func := "loop.example/g01195/laws.FnExactTripleSquare", spec := "fnExactTripleSquare", unfollowed := true, recurses := true, apart := false }
def FnExactTripleSquareSaid : Prop := fnExactTripleSquareRow.holds Try.pinned (OpenSpec.ofChange fnExactTripleSquareSpec)

/-- ITS FALSE NEIGHBOUR: 'it returns false'. Refute it at one input. -/
def fnExactTripleSquareWrong : ChangeSpec := { name := "fnExactTripleSquare", fn := fun _ => fun
  | [d1, d2] => { results := [.lit (.bool false)], args := [d1, d2] }
  | _ => none }
def FnExactTripleSquareWrongFalsely : Prop := fnExactTripleSquareRow.holds Try.pinned (OpenSpec.ofChange fnExactTripleSquareWrong)

/-- 'laws.FnExactTripleLoop': WHATEVER THE INPUT: true; the input reads as it did. -/
def fnExactTripleLoopSpec : ChangeSpec := { name := "fnExactTripleLoop", fn := fun _ => fun
  | [d1, d2] => { results := [.lit (.bool true)], args := [d1, d2] }
  | _ => none }
def fnExactTripleLoopRow : OpenClaim := { program := "ytcaadjjgggjefaa", sum := "22d1848a4d91d977466198eccc102e94fa6a2d2c98368bf7a64e2e99ea73a27b", func := "loop.example/g01195/laws.FnExactTripleLoop", spec := "fnExactTripleLoop", unfollowed := true, recurses := true, apart := false }
def FnExactTripleLoopSaid : Prop := fnExactTripleLoopRow.holds Try.pinned (OpenSpec.ofChange fnExactTripleLoopSpec)

/-- ITS FALSE NEIGHBOUR: 'it returns false'. Refute it at one input. -/
def fnExactTripleLoopWrong : ChangeSpec := { name := "fnExactTripleLoop", fn := fun _ => fun
  | [d1, d2] => { results := [.lit (.bool false)], args := [d1, d2] }
  | _ => none }
def FnExactTripleLoopWrongFalsely : Prop := fnExactTripleLoopRow.holds Try.pinned (OpenSpec.ofChange fnExactTripleLoopWrong)

/- THE SECOND FORM. 'bulk': how many values and letters a reading holds, each counted each time it is reached (what is shared counts as often as it is met; a slice's spare places count too). A statement '..UptoSaid' is the law's where the arguments, and the package variables that the reading takes, are together of bulk at most 1048576: NARROWER than '..Said'. Prove '..Said' where nothing that the law and all that it calls make is longer than what came in: it says more and counts as full. Else prove '..UptoSaid'. A law counts once. -/
mutual
def uptoBulk {H : Type} : DataW H → Nat
  | .lit (.string bytes) => bytes.length + 1
  | .lit _ => 1
  | .nil => 1
  | .ptr d => uptoBulk d + 1
  | .slice elems spare => uptoBulkAll elems + uptoBulkAll spare + 1
  | .agg parts => uptoBulkAll parts + 1
  | .iface _ d => uptoBulk d + 1
  | .map entries => uptoBulkEntries entries + 1
  | .held _ => 1
def uptoBulkAll {H : Type} : List (DataW H) → Nat
  | [] => 0
  | d :: r => uptoBulk d + uptoBulkAll r
def uptoBulkEntries {H : Type} : List (Lit × DataW H) → Nat
  | [] => 0
  | x :: r => uptoBulkEntry x + uptoBulkEntries r
def uptoBulkEntry {H : Type} : Lit × DataW H → Nat
  | (.string bytes, d) => bytes.length + uptoBulk d + 1
  | (_, d) => uptoBulk d + 1
 end
def uptoSmall : (H : Type) → List (DataW H) → Bool := fun _ ds => decide (uptoBulkAll ds ≤ 1048576)
def OpenSpec.upto (s : _root_.Go.ChangeSpec) : _root_.Go.OpenSpec := { _root_.Go.OpenSpec.ofChange s with cond := some uptoSmall }

/-- 'laws.FnExactPowerWitness', WHERE WHAT IT READS IS OF BULK AT MOST 1048576: true; the input reads as it did. -/
def fnExactPowerWitnessUptoRow : OpenClaim := { program := "ytcaadjjgggjefaa", sum := "22d1848a4d91d977466198eccc102e94fa6a2d2c98368bf7a64e2e99ea73a27b", func := "loop.example/g01195/laws.FnExactPowerWitness", spec := "fnExactPowerWitness", unfollowed := true, recurses := true, apart := false, narrowed := true }
def FnExactPowerWitnessUptoSaid : Prop := fnExactPowerWitnessUptoRow.holds Try.pinned (OpenSpec.upto fnExactPowerWitnessSpec)

/-- 'laws.FnExactPairWitness', WHERE WHAT IT READS IS OF BULK AT MOST 1048576: true; the input reads as it did. -/
def fnExactPairWitnessUptoRow : OpenClaim := { program := "ytcaadjjgggjefaa", sum := "22d1848a4d91d977466198eccc102e94fa6a2d2c98368bf7a64e2e99ea73a27b", func := "loop.example/g01195/laws.FnExactPairWitness", spec := "fnExactPairWitness", unfollowed := true, recurses := true, apart := false, narrowed := true }
def FnExactPairWitnessUptoSaid : Prop := fnExactPairWitnessUptoRow.holds Try.pinned (OpenSpec.upto fnExactPairWitnessSpec)

/-- 'laws.FnExactClassOf', WHERE WHAT IT READS IS OF BULK AT MOST 1048576: true; the input reads as it did. -/
def fnExactClassOfUptoRow : OpenClaim := { program := "ytcaadjjgggjefaa", sum := "22d1848a4d91d977466198eccc102e94fa6a2d2c98368bf7a64e2e99ea73a27b", func := "loop.example/g01195/laws.FnExactClassOf", spec := "fnExactClassOf", unfollowed := true, recurses := true, apart := false, narrowed := true }
def FnExactClassOfUptoSaid : Prop := fnExactClassOfUptoRow.holds Try.pinned (OpenSpec.upto fnExactClassOfSpec)

/-- 'laws.FnExactCanonicalLoop', WHERE WHAT IT READS IS OF BULK AT MOST 1048576: true; the input reads as it did. -/
def fnExactCanonicalLoopUptoRow : OpenClaim := { program := "ytcaadjjgggjefaa", sum := "22d1848a4d91d977466198eccc102e94fa6a2d2c98368bf7a64e2e99ea73a27b", func := "loop.example/g01195/laws.FnExactCanonicalLoop", spec := "fnExactCanonicalLoop", inPlace := ["internal/bytealg.Compare"], unfollowed := true, recurses := true, apart := false, narrowed := true }
def FnExactCanonicalLoopUptoSaid : Prop := fnExactCanonicalLoopUptoRow.holds Try.pinned (OpenSpec.upto fnExactCanonicalLoopSpec)

/-- 'laws.FnExactCanonicalIsotope', WHERE WHAT IT READS IS OF BULK AT MOST 1048576: true; the input reads as it did. -/
def fnExactCanonicalIsotopeUptoRow : OpenClaim := { program := "ytcaadjjgggjefaa", sum := "22d1848a4d91d977466198eccc102e94fa6a2d2c98368bf7a64e2e99ea73a27b", func := "loop.example/g01195/laws.FnExactCanonicalIsotope", spec := "fnExactCanonicalIsotope", inPlace := ["internal/bytealg.Compare"], unfollowed := true, recurses := true, apart := false, narrowed := true }
def FnExactCanonicalIsotopeUptoSaid : Prop := fnExactCanonicalIsotopeUptoRow.holds Try.pinned (OpenSpec.upto fnExactCanonicalIsotopeSpec)

/-- 'laws.FnExactUpperSeries', WHERE WHAT IT READS IS OF BULK AT MOST 1048576: true; the input reads as it did. -/
def fnExactUpperSeriesUptoRow : OpenClaim := { program := "ytcaadjjgggjefaa", sum := "22d1848a4d91d977466198eccc102e94fa6a2d2c98368bf7a64e2e99ea73a27b", func := "loop.example/g01195/laws.FnExactUpperSeries", spec := "fnExactUpperSeries", unfollowed := true, recurses := true, apart := false, narrowed := true }
def FnExactUpperSeriesUptoSaid : Prop := fnExactUpperSeriesUptoRow.holds Try.pinned (OpenSpec.upto fnExactUpperSeriesSpec)

/-- 'laws.FnExactAssociatorOfSums', WHERE WHAT IT READS IS OF BULK AT MOST 1048576: true; the input reads as it did. -/
def fnExactAssociatorOfSumsUptoRow : OpenClaim := { program := "ytcaadjjgggjefaa", sum := "22d1848a4d91d977466198eccc102e94fa6a2d2c98368bf7a64e2e99ea73a27b", func := "loop.example/g01195/laws.FnExactAssociatorOfSums", spec := "fnExactAssociatorOfSums", apart := false, narrowed := true }
def FnExactAssociatorOfSumsUptoSaid : Prop := fnExactAssociatorOfSumsUptoRow.holds Try.pinned (OpenSpec.upto fnExactAssociatorOfSumsSpec)

/-- 'laws.FnExactIsAlternativeRing', WHERE WHAT IT READS IS OF BULK AT MOST 1048576: true; the input reads as it did. -/
def fnExactIsAlternativeRingUptoRow : OpenClaim := { program := "ytcaadjjgggjefaa", sum := "22d1848a4d91d977466198eccc102e94fa6a2d2c98368bf7a64e2e99ea73a27b", func := "loop.example/g01195/laws.FnExactIsAlternativeRing", spec := "fnExactIsAlternativeRing", unfollowed := true, recurses := true, apart := false, narrowed := true }
def FnExactIsAlternativeRingUptoSaid : Prop := fnExactIsAlternativeRingUptoRow.holds Try.pinned (OpenSpec.upto fnExactIsAlternativeRingSpec)

/-- 'laws.FnExactExtendLoop', WHERE WHAT IT READS IS OF BULK AT MOST 1048576: true; the input reads as it did. -/
def fnExactExtendLoopUptoRow : OpenClaim := { program := "ytcaadjjgggjefaa", sum := "22d1848a4d91d977466198eccc102e94fa6a2d2c98368bf7a64e2e99ea73a27b", func := "loop.example/g01195/laws.FnExactExtendLoop", spec := "fnExactExtendLoop", unfollowed := true, recurses := true, apart := false, narrowed := true }
def FnExactExtendLoopUptoSaid : Prop := fnExactExtendLoopUptoRow.holds Try.pinned (OpenSpec.upto fnExactExtendLoopSpec)

/-- 'laws.FnExactSquareOfLists', WHERE WHAT IT READS IS OF BULK AT MOST 1048576: true; the input reads as it did. -/
def fnExactSquareOfListsUptoRow : OpenClaim := { program := "ytcaadjjgggjefaa", sum := "22d1848a4d91d977466198eccc102e94fa6a2d2c98368bf7a64e2e99ea73a27b", func := "loop.example/g01195/laws.FnExactSquareOfLists", spec := "fnExactSquareOfLists", unfollowed := true, recurses := true, apart := false, narrowed := true }
def FnExactSquareOfListsUptoSaid : Prop := fnExactSquareOfListsUptoRow.holds Try.pinned (OpenSpec.upto fnExactSquareOfListsSpec)

/-- 'laws.FnExactTripleSquare', WHERE WHAT IT READS IS OF BULK AT MOST 1048576: true; the input reads as it did. -/
def fnExactTripleSquareUptoRow : OpenClaim := { program := "ytcaadjjgggjefaa", sum := "22d1848a4d91d977466198eccc102e94fa6a2d2c98368bf7a64e2e99ea73a27b", func := "loop.example/g01195/laws.FnExactTripleSquare", spec := "fnExactTripleSquare", unfollowed := true, recurses := true, apart := false, narrowed := true }
def FnExactTripleSquareUptoSaid : Prop := fnExactTripleSquareUptoRow.holds Try.pinned (OpenSpec.upto fnExactTripleSquareSpec)

/-- 'laws.FnExactTripleLoop', WHERE WHAT IT READS IS OF BULK AT MOST 1048576: true; the input reads as it did. -/
def fnExactTripleLoopUptoRow : OpenClaim := { program := "ytcaadjjgggjefaa", sum := "22d1848a4d91d977466198eccc102e94fa6a2d2c98368bf7a64e2e99ea73a27b", func := "loop.example/g01195/laws.FnExactTripleLoop", spec := "fnExactTripleLoop", unfollowed := true, recurses := true, apart := false, narrowed := true }
def FnExactTripleLoopUptoSaid : Prop := fnExactTripleLoopUptoRow.holds Try.pinned (OpenSpec.upto fnExactTripleLoopSpec)

end Rows
end Go.Proofs.Ytcaadjjgggjefaa

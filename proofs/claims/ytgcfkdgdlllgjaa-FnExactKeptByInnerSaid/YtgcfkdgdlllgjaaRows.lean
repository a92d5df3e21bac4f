/-
  No cell of these rows narrows 'for every input' (looked for: loops, veiled, ifaces, maps, wideKeys, modest, calm, conditions, laid).
  DERIVED. THE GIVEN ROWS OF THIS SEAT. 12 by the template 'for every input the law returns true; each argument reads behind the call as it read before'; 0 by the template 'total and deterministic' (their statements: YtgcfkdgdlllgjaaTotals.lean).
  GIVEN WITH THE SEED: the statements are not yours to turn. If you find one false, say at which input.
  Laid BY PROGRAM, IN A SANDBOX (cutbox-rows.mjs): the forced cells as the released guide's own fill.sh prints them over the translation 6139d13f676376d6… (all of the seat's roots in one cut). By AI agents, Wed Nov 11 2026. No macro, syntax, notation, axiom, sorry.
-/
import Derived.Test.YtgcfkdgdlllgjaaChecked
import GoSem.Claim
import GoSem.ClaimJoined
import GoSem.ClaimMapViews
import Derived.JoinedTies
import Derived.KernelRfl
namespace Go.Proofs.Ytgcfkdgdlllgjaa
/- THE CELL 'sum', in the pinned program and in every row, IS THE sha256 OF THE DUMP (.gsa) THAT YtgcfkdgdlllgjaaProg.lean LOADS. Nothing in Lean hashes anything: it is a label: what it is worth is what the hold of that sum in a sandbox is worth. -/
noncomputable def Try.pinned : Pinned := { name := "ytgcfkdgdlllgjaa", sum := "6139d13f676376d6ec7cfbdf47e1f81b2638d259cc63d644f0c73c71e911e007", checked := Try.checked }
namespace Rows
def none {H : Type} : Left H := { results := [], args := [] }

/-- 'laws.FnExactSymmetriesOf': WHATEVER THE INPUT: true; the input reads as it did. -/
def fnExactSymmetriesOfSpec : ChangeSpec := { name := "fnExactSymmetriesOf", fn := fun _ => fun
  | [d] => { results := [.lit (.bool true)], args := [d] }
  | _ => none }
def fnExactSymmetriesOfRow : OpenClaim := { program := "ytgcfkdgdlllgjaa", sum := "6139d13f676376d6ec7cfbdf47e1f81b2638d259cc63d644f0c73c71e911e007", func := "loop.example/g01195/laws.FnExactSymmetriesOf", spec := "fnExactSymmetriesOf", unfollowed := true, recurses := true, apart := false }
def FnExactSymmetriesOfSaid : Prop := fnExactSymmetriesOfRow.holds Try.pinned (OpenSpec.ofChange fnExactSymmetriesOfSpec)

/-- ITS FALSE NEIGHBOUR: 'it returns false'. Refute it at one input. -/
def fnExactSymmetriesOfWrong : ChangeSpec := { name := "fnExactSymmetriesOf", fn := fun _ => fun
  | [d] => { results := [.lit (.bool false)], args := [d] }
  | _ => none }
def FnExactSymmetriesOfWrongFalsely : Prop := fnExactSymmetriesOfRow.holds Try.pinned (OpenSpec.ofChange fnExactSymmetriesOfWrong)

/-- 'laws.FnExactCentreOf': WHATEVER THE INPUT: true; the input reads as it did. -/
def fnExactCentreOfSpec : ChangeSpec := { name := "fnExactCentreOf", fn := fun _ => fun
  | [d] => { results := [.lit (.bool true)], args := [d] }
  | _ => none }
def fnExactCentreOfRow : OpenClaim := { program := "ytgcfkdgdlllgjaa", sum := "6139d13f676376d6ec7cfbdf47e1f81b2638d259cc63d644f0c73c71e911e007", func := "loop.example/g01195/laws.FnExactCentreOf", spec := "fnExactCentreOf", unfollowed := true, recurses := true, apart := false }
def FnExactCentreOfSaid : Prop := fnExactCentreOfRow.holds Try.pinned (OpenSpec.ofChange fnExactCentreOfSpec)

/-- ITS FALSE NEIGHBOUR: 'it returns false'. Refute it at one input. -/
def fnExactCentreOfWrong : ChangeSpec := { name := "fnExactCentreOf", fn := fun _ => fun
  | [d] => { results := [.lit (.bool false)], args := [d] }
  | _ => none }
def FnExactCentreOfWrongFalsely : Prop := fnExactCentreOfRow.holds Try.pinned (OpenSpec.ofChange fnExactCentreOfWrong)

/-- 'laws.FnExactIsOrthomorphism': WHATEVER THE INPUT: true; the input reads as it did. -/
def fnExactIsOrthomorphismSpec : ChangeSpec := { name := "fnExactIsOrthomorphism", fn := fun _ => fun
  | [d1, d2] => { results := [.lit (.bool true)], args := [d1, d2] }
  | _ => none }
def fnExactIsOrthomorphismRow : OpenClaim := { program := "ytgcfkdgdlllgjaa", sum := "6139d13f676376d6ec7cfbdf47e1f81b2638d259cc63d644f0c73c71e911e007", func := "loop.example/g01195/laws.FnExactIsOrthomorphism", spec := "fnExactIsOrthomorphism", apart := false }
def FnExactIsOrthomorphismSaid : Prop := fnExactIsOrthomorphismRow.holds Try.pinned (OpenSpec.ofChange fnExactIsOrthomorphismSpec)

/-- ITS FALSE NEIGHBOUR: 'it returns false'. Refute it at one input. -/
def fnExactIsOrthomorphismWrong : ChangeSpec := { name := "fnExactIsOrthomorphism", fn := fun _ => fun
  | [d1, d2] => { results := [.lit (.bool false)], args := [d1, d2] }
  | _ => none }
def FnExactIsOrthomorphismWrongFalsely : Prop := fnExactIsOrthomorphismRow.holds Try.pinned (OpenSpec.ofChange fnExactIsOrthomorphismWrong)

/-- 'laws.FnExactOrthomorphismSquare': WHATEVER THE INPUT: true; the input reads as it did. -/
def fnExactOrthomorphismSquareSpec : ChangeSpec := { name := "fnExactOrthomorphismSquare", fn := fun _ => fun
  | [d1, d2] => { results := [.lit (.bool true)], args := [d1, d2] }
  | _ => none }
def fnExactOrthomorphismSquareRow : OpenClaim := { program := "ytgcfkdgdlllgjaa", sum := "6139d13f676376d6ec7cfbdf47e1f81b2638d259cc63d644f0c73c71e911e007", func := "loop.example/g01195/laws.FnExactOrthomorphismSquare", spec := "fnExactOrthomorphismSquare", unfollowed := true, recurses := true, apart := false }
def FnExactOrthomorphismSquareSaid : Prop := fnExactOrthomorphismSquareRow.holds Try.pinned (OpenSpec.ofChange fnExactOrthomorphismSquareSpec)

/-- ITS FALSE NEIGHBOUR: 'it returns false'. Refute it at one input. -/
def fnExactOrthomorphismSquareWrong : ChangeSpec := { name := "fnExactOrthomorphismSquare", fn := fun _ => fun
  | [d1, d2] => { results := [.lit (.bool false)], args := [d1, d2] }
  | _ => none }
def FnExactOrthomorphismSquareWrongFalsely : Prop := fnExactOrthomorphismSquareRow.holds Try.pinned (OpenSpec.ofChange fnExactOrthomorphismSquareWrong)

/-- 'laws.FnExactIsAutomorphicLoop': WHATEVER THE INPUT: true; the input reads as it did. -/
def fnExactIsAutomorphicLoopSpec : ChangeSpec := { name := "fnExactIsAutomorphicLoop", fn := fun _ => fun
  | [d] => { results := [.lit (.bool true)], args := [d] }
  | _ => none }
def fnExactIsAutomorphicLoopRow : OpenClaim := { program := "ytgcfkdgdlllgjaa", sum := "6139d13f676376d6ec7cfbdf47e1f81b2638d259cc63d644f0c73c71e911e007", func := "loop.example/g01195/laws.FnExactIsAutomorphicLoop", spec := "fnExactIsAutomorphicLoop", unfollowed := true, recurses := true, apart := false }
def FnExactIsAutomorphicLoopSaid : Prop := fnExactIsAutomorphicLoopRow.holds Try.pinned (OpenSpec.ofChange fnExactIsAutomorphicLoopSpec)

/-- ITS FALSE NEIGHBOUR: 'it returns false'. Refute it at one input. -/
def fnExactIsAutomorphicLoopWrong : ChangeSpec := { name := "fnExactIsAutomorphicLoop", fn := fun _ => fun
  | [d] => { results := [.lit (.bool false)], args := [d] }
  | _ => none }
def FnExactIsAutomorphicLoopWrongFalsely : Prop := fnExactIsAutomorphicLoopRow.holds Try.pinned (OpenSpec.ofChange fnExactIsAutomorphicLoopWrong)

/-- 'laws.FnExactKeptByInner': WHATEVER THE INPUT: true; the input reads as it did. -/
def fnExactKeptByInnerSpec : ChangeSpec := { name := "fnExactKeptByInner", fn := fun _ => fun
  | [d] => { results := [.lit (.bool true)], args := [d] }
  | _ => none }
def fnExactKeptByInnerRow : OpenClaim := { program := "ytgcfkdgdlllgjaa", sum := "6139d13f676376d6ec7cfbdf47e1f81b2638d259cc63d644f0c73c71e911e007", func := "loop.example/g01195/laws.FnExactKeptByInner", spec := "fnExactKeptByInner", unfollowed := true, recurses := true, apart := false }
def FnExactKeptByInnerSaid : Prop := fnExactKeptByInnerRow.holds Try.pinned (OpenSpec.ofChange fnExactKeptByInnerSpec)

/-- ITS FALSE NEIGHBOUR: 'it returns false'. Refute it at one input. -/
def fnExactKeptByInnerWrong : ChangeSpec := { name := "fnExactKeptByInner", fn := fun _ => fun
  | [d] => { results := [.lit (.bool false)], args := [d] }
  | _ => none }
def FnExactKeptByInnerWrongFalsely : Prop := fnExactKeptByInnerRow.holds Try.pinned (OpenSpec.ofChange fnExactKeptByInnerWrong)

/-- 'laws.FnExactClassOf': WHATEVER THE INPUT: true; the input reads as it did. -/
def fnExactClassOfSpec : ChangeSpec := { name := "fnExactClassOf", fn := fun _ => fun
  | [d] => { results := [.lit (.bool true)], args := [d] }
  | _ => none }
def fnExactClassOfRow : OpenClaim := { program := "ytgcfkdgdlllgjaa", sum := "6139d13f676376d6ec7cfbdf47e1f81b2638d259cc63d644f0c73c71e911e007", func := "loop.example/g01195/laws.FnExactClassOf", spec := "fnExactClassOf", unfollowed := true, recurses := true, apart := false }
def FnExactClassOfSaid : Prop := fnExactClassOfRow.holds Try.pinned (OpenSpec.ofChange fnExactClassOfSpec)

/-- ITS FALSE NEIGHBOUR: 'it returns false'. Refute it at one input. -/
def fnExactClassOfWrong : ChangeSpec := { name := "fnExactClassOf", fn := fun _ => fun
  | [d] => { results := [.lit (.bool false)], args := [d] }
  | _ => none }
def FnExactClassOfWrongFalsely : Prop := fnExactClassOfRow.holds Try.pinned (OpenSpec.ofChange fnExactClassOfWrong)

/-- 'laws.FnExactUpperSeries': WHATEVER THE INPUT: true; the input reads as it did. -/
def fnExactUpperSeriesSpec : ChangeSpec := { name := "fnExactUpperSeries", fn := fun _ => fun
  | [d] => { results := [.lit (.bool true)], args := [d] }
  | _ => none }
def fnExactUpperSeriesRow : OpenClaim := { program := "ytgcfkdgdlllgjaa", sum := "6139d13f676376d6ec7cfbdf47e1f81b2638d259cc63d644f0c73c71e911e007", func := "loop.example/g01195/laws.FnExactUpperSeries", spec := "fnExactUpperSeries", unfollowed := true, recurses := true, apart := false }
def FnExactUpperSeriesSaid : Prop := fnExactUpperSeriesRow.holds Try.pinned (OpenSpec.ofChange fnExactUpperSeriesSpec)

/-- ITS FALSE NEIGHBOUR: 'it returns false'. Refute it at one input. -/
def fnExactUpperSeriesWrong : ChangeSpec := { name := "fnExactUpperSeries", fn := fun _ => fun
  | [d] => { results := [.lit (.bool false)], args := [d] }
  | _ => none }
def FnExactUpperSeriesWrongFalsely : Prop := fnExactUpperSeriesRow.holds Try.pinned (OpenSpec.ofChange fnExactUpperSeriesWrong)

/-- 'laws.FnExactCanonicalLoop': WHATEVER THE INPUT: true; the input reads as it did. -/
def fnExactCanonicalLoopSpec : ChangeSpec := { name := "fnExactCanonicalLoop", fn := fun _ => fun
  | [d] => { results := [.lit (.bool true)], args := [d] }
  | _ => none }
def fnExactCanonicalLoopRow : OpenClaim := { program := "ytgcfkdgdlllgjaa", sum := "6139d13f676376d6ec7cfbdf47e1f81b2638d259cc63d644f0c73c71e911e007", func := "loop.example/g01195/laws.FnExactCanonicalLoop", spec := "fnExactCanonicalLoop", inPlace := ["internal/bytealg.Compare"], unfollowed := true, recurses := true, apart := false }
def FnExactCanonicalLoopSaid : Prop := fnExactCanonicalLoopRow.holds Try.pinned (OpenSpec.ofChange fnExactCanonicalLoopSpec)

/-- ITS FALSE NEIGHBOUR: 'it returns false'. Refute it at one input. -/
def fnExactCanonicalLoopWrong : ChangeSpec := { name := "fnExactCanonicalLoop", fn := fun _ => fun
  | [d] => { results := [.lit (.bool false)], args := [d] }
  | _ => none }
def FnExactCanonicalLoopWrongFalsely : Prop := fnExactCanonicalLoopRow.holds Try.pinned (OpenSpec.ofChange fnExactCanonicalLoopWrong)

/-- 'laws.FnExactCanonicalIsotope': WHATEVER THE INPUT: true; the input reads as it did. -/
def fnExactCanonicalIsotopeSpec : ChangeSpec := { name := "fnExactCanonicalIsotope", fn := fun _ => fun
  | [d] => { results := [.lit (.bool true)], args := [d] }
  | _ => none }
def fnExactCanonicalIsotopeRow : OpenClaim := { program := "ytgcfkdgdlllgjaa", sum := "6139d13f676376d6ec7cfbdf47e1f81b2638d259cc63d644f0c73c71e911e007", func := "loop.example/g01195/laws.FnExactCanonicalIsotope", spec := "fnExactCanonicalIsotope", inPlace := ["internal/bytealg.Compare"], unfollowed := true, recurses := true, apart := false }
def FnExactCanonicalIsotopeSaid : Prop := fnExactCanonicalIsotopeRow.holds Try.pinned (OpenSpec.ofChange fnExactCanonicalIsotopeSpec)

/-- ITS FALSE NEIGHBOUR: 'it returns false'. Refute it at one input. -/
def fnExactCanonicalIsotopeWrong : ChangeSpec := { name := "fnExactCanonicalIsotope", fn := fun _ => fun
  | [d] => { results := [.lit (.bool false)], args := [d] }
  | _ => none }
def FnExactCanonicalIsotopeWrongFalsely : Prop := fnExactCanonicalIsotopeRow.holds Try.pinned (OpenSpec.ofChange fnExactCanonicalIsotopeWrong)

/-- 'laws.FnExactPowerWitness': WHATEVER THE INPUT: true; the input reads as it did. -/
def fnExactPowerWitnessSpec : ChangeSpec := { name := "fnExactPowerWitness", fn := fun _ => fun
  | [d] => { results := [.lit (.bool true)], args := [d] }
  | _ => none }
def fnExactPowerWitnessRow : OpenClaim := { program := "ytgcfkdgdlllgjaa", sum := "6139d13f676376d6ec7cfbdf47e1f81b2638d259cc63d644f0c73c71e911e007", func := "loop.example/g01195/laws.FnExactPowerWitness", spec := "fnExactPowerWitness", unfollowed := true, recurses := true, apart := false }
def FnExactPowerWitnessSaid : Prop := fnExactPowerWitnessRow.holds Try.pinned (OpenSpec.ofChange fnExactPowerWitnessSpec)

/-- ITS FALSE NEIGHBOUR: 'it returns false'. Refute it at one input. -/
def fnExactPowerWitnessWrong : ChangeSpec := { name := "fnExactPowerWitness", fn := fun _ => fun
  | [d] => { results := [.lit (.bool false)], args := [d] }
  | _ => none }
def FnExactPowerWitnessWrongFalsely : Prop := fnExactPowerWitnessRow.holds Try.pinned (OpenSpec.ofChange fnExactPowerWitnessWrong)

/-- 'laws.FnExactPairWitness': WHATEVER THE INPUT: true; the input reads as it did. -/
def fnExactPairWitnessSpec : ChangeSpec := { name := "fnExactPairWitness", fn := fun _ => fun
  | [d] => { results := [.lit (.bool true)], args := [d] }
  | _ => none }
def fnExactPairWitnessRow : OpenClaim := { program := "ytgcfkdgdlllgjaa", sum := "6139d13f676376d6ec7cfbdf47e1f81b2638d259cc63d644f0c73c71e911e007", func := "loop.example/g01195/laws.FnExactPairWitness", spec := "fnExactPairWitness", unfollowed := true, recurses := true, apart := false }
def FnExactPairWitnessSaid : Prop := fnExactPairWitnessRow.holds Try.pinned (OpenSpec.ofChange fnExactPairWitnessSpec)

/-- ITS FALSE NEIGHBOUR: 'it returns false'. Refute it at one input. -/
def fnExactPairWitnessWrong : ChangeSpec := { name := "fnExactPairWitness", fn := fun _ => fun
  | [d] => { results := [.lit (.bool false)], args := [d] }
  | _ => none }
def FnExactPairWitnessWrongFalsely : Prop := fnExactPairWitnessRow.holds Try.pinned (OpenSpec.ofChange fnExactPairWitnessWrong)

/- THE SECOND FORM. 'bulk': how many values and letters a reading holds, each counted each time it is reached (what is shared counts as often as it is met; a slice's spare places count too). A statement '..UptoSaid' is the law's where the arguments, and the package variables that the reading takes, are together of bulk at most 1048576: NARROWER than '..Said'. Prove '..Said' where nothing that the law and all that it calls make is longer than what came in: it says more and counts as full. Else prove '..UptoSaid'. A law counts once. -/
mutual
def uptoBulk {H : Type} : DataW H → Nat
  | .lit (.string bytes) => bytes.length + 1
  | .lit _ => 1
  | .nil => 1
  | .ptr d => uptoBulk d + 1
  | .slice elems spare => uptoBulkAll elems + uptoBulkAll spare + 1
  | .agg parts => uptoBulkAll parts + 1
  | .iface _ d => uptoBulk d + 1
  | .map entries => uptoBulkEntries entries + 1
  | .held _ => 1
def uptoBulkAll {H : Type} : List (DataW H) → Nat
  | [] => 0
  | d :: r => uptoBulk d + uptoBulkAll r
def uptoBulkEntries {H : Type} : List (Lit × DataW H) → Nat
  | [] => 0
  | x :: r => uptoBulkEntry x + uptoBulkEntries r
def uptoBulkEntry {H : Type} : Lit × DataW H → Nat
  | (.string bytes, d) => bytes.length + uptoBulk d + 1
  | (_, d) => uptoBulk d + 1
 end
def uptoSmall : (H : Type) → List (DataW H) → Bool := fun _ ds => decide (uptoBulkAll ds ≤ 1048576)
def OpenSpec.upto (s : _root_.Go.ChangeSpec) : _root_.Go.OpenSpec := { _root_.Go.OpenSpec.ofChange s with cond := some uptoSmall }

/-- 'laws.FnExactSymmetriesOf', WHERE WHAT IT READS IS OF BULK AT MOST 1048576: true; the input reads as it did. -/
def fnExactSymmetriesOfUptoRow : OpenClaim := { program := "ytgcfkdgdlllgjaa", sum := "6139d13f676376d6ec7cfbdf47e1f81b2638d259cc63d644f0c73c71e911e007", func := "loop.example/g01195/laws.FnExactSymmetriesOf", spec := "fnExactSymmetriesOf", unfollowed := true, recurses := true, apart := false, narrowed := true }
def FnExactSymmetriesOfUptoSaid : Prop := fnExactSymmetriesOfUptoRow.holds Try.pinned (OpenSpec.upto fnExactSymmetriesOfSpec)

/-- 'laws.FnExactCentreOf', WHERE WHAT IT READS IS OF BULK AT MOST 1048576: true; the input reads as it did. -/
def fnExactCentreOfUptoRow : OpenClaim := { program := "ytgcfkdgdlllgjaa", sum := "6139d13f676376d6ec7cfbdf47e1f81b2638d259cc63d644f0c73c71e911e007", func := "loop.example/g01195/laws.FnExactCentreOf", spec := "fnExactCentreOf", unfollowed := true, recurses := true, apart := false, narrowed := true }
def FnExactCentreOfUptoSaid : Prop := fnExactCentreOfUptoRow.holds Try.pinned (OpenSpec.upto fnExactCentreOfSpec)

/-- 'laws.FnExactIsOrthomorphism', WHERE WHAT IT READS IS OF BULK AT MOST 1048576: true; the input reads as it did. -/
def fnExactIsOrthomorphismUptoRow : OpenClaim := { program := "ytgcfkdgdlllgjaa", sum := "6139d13f676376d6ec7cfbdf47e1f81b2638d259cc63d644f0c73c71e911e007", func := "loop.example/g01195/laws.FnExactIsOrthomorphism", spec := "fnExactIsOrthomorphism", apart := false, narrowed := true }
def FnExactIsOrthomorphismUptoSaid : Prop := fnExactIsOrthomorphismUptoRow.holds Try.pinned (OpenSpec.upto fnExactIsOrthomorphismSpec)

/-- 'laws.FnExactOrthomorphismSquare', WHERE WHAT IT READS IS OF BULK AT MOST 1048576: true; the input reads as it did. -/
def fnExactOrthomorphismSquareUptoRow : OpenClaim := { program := "ytgcfkdgdlllgjaa", sum := "6139d13f676376d6ec7cfbdf47e1f81b2638d259cc63d644f0c73c71e911e007", func := "loop.example/g01195/laws.FnExactOrthomorphismSquare", spec := "fnExactOrthomorphismSquare", unfollowed := true, recurses := true, apart := false, narrowed := true }
def FnExactOrthomorphismSquareUptoSaid : Prop := fnExactOrthomorphismSquareUptoRow.holds Try.pinned (OpenSpec.upto fnExactOrthomorphismSquareSpec)

/-- 'laws.FnExactIsAutomorphicLoop', WHERE WHAT IT READS IS OF BULK AT MOST 1048576: true; the input reads as it did. -/
def fnExactIsAutomorphicLoopUptoRow : OpenClaim := { program := "ytgcfkdgdlllgjaa", sum := "6139d13f676376d6ec7cfbdf47e1f81b2638d259cc63d644f0c73c71e911e007", func := "loop.example/g01195/laws.FnExactIsAutomorphicLoop", spec := "fnExactIsAutomorphicLoop", unfollowed := true, recurses := true, apart := false, narrowed := true }
def FnExactIsAutomorphicLoopUptoSaid : Prop := fnExactIsAutomorphicLoopUptoRow.holds Try.pinned (OpenSpec.upto fnExactIsAutomorphicLoopSpec)

/-- 'laws.FnExactKeptByInner', WHERE WHAT IT READS IS OF BULK AT MOST 1048576: true; the input reads as it did. -/
def fnExactKeptByInnerUptoRow : OpenClaim := { program := "ytgcfkdgdlllgjaa", sum := "6139d13f676376d6ec7cfbdf47e1f81b2638d259cc63d644f0c73c71e911e007", func := "loop.example/g01195/laws.FnExactKeptByInner", spec := "fnExactKeptByInner", unfollowed := true, recurses := true, apart := false, narrowed := true }
def FnExactKeptByInnerUptoSaid : Prop := fnExactKeptByInnerUptoRow.holds Try.pinned (OpenSpec.upto fnExactKeptByInnerSpec)

/-- 'laws.FnExactClassOf', WHERE WHAT IT READS IS OF BULK AT MOST 1048576: true; the input reads as it did. -/
def fnExactClassOfUptoRow : OpenClaim := { program := "ytgcfkdgdlllgjaa", sum := "6139d13f676376d6ec7cfbdf47e1f81b2638d259cc63d644f0c73c71e911e007", func := "loop.example/g01195/laws.FnExactClassOf", spec := "fnExactClassOf", unfollowed := true, recurses := true, apart := false, narrowed := true }
def FnExactClassOfUptoSaid : Prop := fnExactClassOfUptoRow.holds Try.pinned (OpenSpec.upto fnExactClassOfSpec)

/-- 'laws.FnExactUpperSeries', WHERE WHAT IT READS IS OF BULK AT MOST 1048576: true; the input reads as it did. -/
def fnExactUpperSeriesUptoRow : OpenClaim := { program := "ytgcfkdgdlllgjaa", sum := "6139d13f676376d6ec7cfbdf47e1f81b2638d259cc63d644f0c73c71e911e007", func := "loop.example/g01195/laws.FnExactUpperSeries", spec := "fnExactUpperSeries", unfollowed := true, recurses := true, apart := false, narrowed := true }
def FnExactUpperSeriesUptoSaid : Prop := fnExactUpperSeriesUptoRow.holds Try.pinned (OpenSpec.upto fnExactUpperSeriesSpec)

/-- 'laws.FnExactCanonicalLoop', WHERE WHAT IT READS IS OF BULK AT MOST 1048576: true; the input reads as it did. -/
def fnExactCanonicalLoopUptoRow : OpenClaim := { program := "ytgcfkdgdlllgjaa", sum := "6139d13f676376d6ec7cfbdf47e1f81b2638d259cc63d644f0c73c71e911e007", func := "loop.example/g01195/laws.FnExactCanonicalLoop", spec := "fnExactCanonicalLoop", inPlace := ["internal/bytealg.Compare"], unfollowed := true, recurses := true, apart := false, narrowed := true }
def FnExactCanonicalLoopUptoSaid : Prop := fnExactCanonicalLoopUptoRow.holds Try.pinned (OpenSpec.upto fnExactCanonicalLoopSpec)

/-- 'laws.FnExactCanonicalIsotope', WHERE WHAT IT READS IS OF BULK AT MOST 1048576: true; the input reads as it did. -/
def fnExactCanonicalIsotopeUptoRow : OpenClaim := { program := "ytgcfkdgdlllgjaa", sum := "6139d13f676376d6ec7cfbdf47e1f81b2638d259cc63d644f0c73c71e911e007", func := "loop.example/g01195/laws.FnExactCanonicalIsotope", spec := "fnExactCanonicalIsotope", inPlace := ["internal/bytealg.Compare"], unfollowed := true, recurses := true, apart := false, narrowed := true }
def FnExactCanonicalIsotopeUptoSaid : Prop := fnExactCanonicalIsotopeUptoRow.holds Try.pinned (OpenSpec.upto fnExactCanonicalIsotopeSpec)

/-- 'laws.FnExactPowerWitness', WHERE WHAT IT READS IS OF BULK AT MOST 1048576: true; the input reads as it did. -/
def fnExactPowerWitnessUptoRow : OpenClaim := { program := "ytgcfkdgdlllgjaa", sum := "6139d13f676376d6ec7cfbdf47e1f81b2638d259cc63d644f0c73c71e911e007", func := "loop.example/g01195/laws.FnExactPowerWitness", spec := "fnExactPowerWitness", unfollowed := true, recurses := true, apart := false, narrowed := true }
def FnExactPowerWitnessUptoSaid : Prop := fnExactPowerWitnessUptoRow.holds Try.pinned (OpenSpec.upto fnExactPowerWitnessSpec)

/-- 'laws.FnExactPairWitness', WHERE WHAT IT READS IS OF BULK AT MOST 1048576: true; the input reads as it did. -/
def fnExactPairWitnessUptoRow : OpenClaim := { program := "ytgcfkdgdlllgjaa", sum := "6139d13f676376d6ec7cfbdf47e1f81b2638d259cc63d644f0c73c71e911e007", func := "loop.example/g01195/laws.FnExactPairWitness", spec := "fnExactPairWitness", unfollowed := true, recurses := true, apart := false, narrowed := true }
def FnExactPairWitnessUptoSaid : Prop := fnExactPairWitnessUptoRow.holds Try.pinned (OpenSpec.upto fnExactPairWitnessSpec)

end Rows
end Go.Proofs.Ytgcfkdgdlllgjaa

/-
  No cell of these rows narrows 'for every input' (looked for: loops, veiled, ifaces, maps, wideKeys, modest, calm, conditions, laid).
  DERIVED. THE GIVEN ROWS OF THIS SEAT. 12 by the template 'for every input the law returns true; each argument reads behind the call as it read before'; 0 by the template 'total and deterministic' (their statements: YtopkdpgbjpjgjaaTotals.lean).
  GIVEN WITH THE SEED: the statements are not yours to turn. If you find one false, say at which input.
  Laid BY PROGRAM, IN A SANDBOX (cutbox-rows.mjs): the forced cells as the released guide's own fill.sh prints them over the translation ae78bd191b331ba3… (all of the seat's roots in one cut). By AI agents, Wed Nov 11 2026. No macro, syntax, notation, axiom, sorry.
-/
import Derived.Test.YtopkdpgbjpjgjaaChecked
import GoSem.Claim
import GoSem.ClaimJoined
import GoSem.ClaimMapViews
import Derived.JoinedTies
import Derived.KernelRfl
namespace Go.Proofs.Ytopkdpgbjpjgjaa
/- THE CELL 'sum', in the pinned program and in every row, IS THE sha256 OF THE DUMP (.gsa) THAT YtopkdpgbjpjgjaaProg.lean LOADS. Nothing in Lean hashes anything: it is a label: what it is worth is what the hold of that sum in a sandbox is worth. -/
noncomputable def Try.pinned : Pinned := { name := "ytopkdpgbjpjgjaa", sum := "ae78bd191b331ba31295ac27f1cc520ba28a110b58e61bab8c1884e815de2f42", checked := Try.checked }
namespace Rows
def none {H : Type} : Left H := { results := [], args := [] }

/-- 'laws.FnExactLeftInner': WHATEVER THE INPUT: true; the input reads as it did. -/
def fnExactLeftInnerSpec : ChangeSpec := { name := "fnExactLeftInner", fn := fun _ => fun
  | [d1, d2, d3] => { results := [.lit (.bool true)], args := [d1, d2, d3] }
  | _ => none }
def fnExactLeftInnerRow : OpenClaim := { program := "ytopkdpgbjpjgjaa", sum := "ae78bd191b331ba31295ac27f1cc520ba28a110b58e61bab8c1884e815de2f42", func := "loop.example/g01195/laws.FnExactLeftInner", spec := "fnExactLeftInner", unfollowed := true, recurses := true, apart := false }
def FnExactLeftInnerSaid : Prop := fnExactLeftInnerRow.holds Try.pinned (OpenSpec.ofChange fnExactLeftInnerSpec)

/-- ITS FALSE NEIGHBOUR: 'it returns false'. Refute it at one input. -/
def fnExactLeftInnerWrong : ChangeSpec := { name := "fnExactLeftInner", fn := fun _ => fun
  | [d1, d2, d3] => { results := [.lit (.bool false)], args := [d1, d2, d3] }
  | _ => none }
def FnExactLeftInnerWrongFalsely : Prop := fnExactLeftInnerRow.holds Try.pinned (OpenSpec.ofChange fnExactLeftInnerWrong)

/-- 'laws.FnExactNewDesk': WHATEVER THE INPUT: true; the input reads as it did. -/
def fnExactNewDeskSpec : ChangeSpec := { name := "fnExactNewDesk", fn := fun _ => fun
  | [] => { results := [.lit (.bool true)], args := [] }
  | _ => none }
def fnExactNewDeskRow : OpenClaim := { program := "ytopkdpgbjpjgjaa", sum := "ae78bd191b331ba31295ac27f1cc520ba28a110b58e61bab8c1884e815de2f42", func := "loop.example/g01195/laws.FnExactNewDesk", spec := "fnExactNewDesk", unfollowed := true, recurses := true, apart := false }
def FnExactNewDeskSaid : Prop := fnExactNewDeskRow.holds Try.pinned (OpenSpec.ofChange fnExactNewDeskSpec)

/-- ITS FALSE NEIGHBOUR: 'it returns false'. Refute it at one input. -/
def fnExactNewDeskWrong : ChangeSpec := { name := "fnExactNewDesk", fn := fun _ => fun
  | [] => { results := [.lit (.bool false)], args := [] }
  | _ => none }
def FnExactNewDeskWrongFalsely : Prop := fnExactNewDeskRow.holds Try.pinned (OpenSpec.ofChange fnExactNewDeskWrong)

/-- 'laws.FnExactLeftNucleus': WHATEVER THE INPUT: true; the input reads as it did. -/
def fnExactLeftNucleusSpec : ChangeSpec := { name := "fnExactLeftNucleus", fn := fun _ => fun
  | [d] => { results := [.lit (.bool true)], args := [d] }
  | _ => none }
def fnExactLeftNucleusRow : OpenClaim := { program := "ytopkdpgbjpjgjaa", sum := "ae78bd191b331ba31295ac27f1cc520ba28a110b58e61bab8c1884e815de2f42", func := "loop.example/g01195/laws.FnExactLeftNucleus", spec := "fnExactLeftNucleus", unfollowed := true, recurses := true, apart := false }
def FnExactLeftNucleusSaid : Prop := fnExactLeftNucleusRow.holds Try.pinned (OpenSpec.ofChange fnExactLeftNucleusSpec)

/-- ITS FALSE NEIGHBOUR: 'it returns false'. Refute it at one input. -/
def fnExactLeftNucleusWrong : ChangeSpec := { name := "fnExactLeftNucleus", fn := fun _ => fun
  | [d] => { results := [.lit (.bool false)], args := [d] }
  | _ => none }
def FnExactLeftNucleusWrongFalsely : Prop := fnExactLeftNucleusRow.holds Try.pinned (OpenSpec.ofChange fnExactLeftNucleusWrong)

/-- 'laws.FnExactMiddleNucleus': WHATEVER THE INPUT: true; the input reads as it did. -/
def fnExactMiddleNucleusSpec : ChangeSpec := { name := "fnExactMiddleNucleus", fn := fun _ => fun
  | [d] => { results := [.lit (.bool true)], args := [d] }
  | _ => none }
def fnExactMiddleNucleusRow : OpenClaim := { program := "ytopkdpgbjpjgjaa", sum := "ae78bd191b331ba31295ac27f1cc520ba28a110b58e61bab8c1884e815de2f42", func := "loop.example/g01195/laws.FnExactMiddleNucleus", spec := "fnExactMiddleNucleus", unfollowed := true, recurses := true, apart := false }
def FnExactMiddleNucleusSaid : Prop := fnExactMiddleNucleusRow.holds Try.pinned (OpenSpec.ofChange fnExactMiddleNucleusSpec)

/-- ITS FALSE NEIGHBOUR: 'it returns false'. Refute it at one input. -/
def fnExactMiddleNucleusWrong : ChangeSpec := { name := "fnExactMiddleNucleus", fn := fun _ => fun
  | [d] => { results := [.lit (.bool false)], args := [d] }
  | _ => none }
def FnExactMiddleNucleusWrongFalsely : Prop := fnExactMiddleNucleusRow.holds Try.pinned (OpenSpec.ofChange fnExactMiddleNucleusWrong)

/-- 'laws.FnExactRightInner': WHATEVER THE INPUT: true; the input reads as it did. -/
def fnExactRightInnerSpec : ChangeSpec := { name := "fnExactRightInner", fn := fun _ => fun
  | [d1, d2, d3] => { results := [.lit (.bool true)], args := [d1, d2, d3] }
  | _ => none }
def fnExactRightInnerRow : OpenClaim := { program := "ytopkdpgbjpjgjaa", sum := "ae78bd191b331ba31295ac27f1cc520ba28a110b58e61bab8c1884e815de2f42", func := "loop.example/g01195/laws.FnExactRightInner", spec := "fnExactRightInner", unfollowed := true, recurses := true, apart := false }
def FnExactRightInnerSaid : Prop := fnExactRightInnerRow.holds Try.pinned (OpenSpec.ofChange fnExactRightInnerSpec)

/-- ITS FALSE NEIGHBOUR: 'it returns false'. Refute it at one input. -/
def fnExactRightInnerWrong : ChangeSpec := { name := "fnExactRightInner", fn := fun _ => fun
  | [d1, d2, d3] => { results := [.lit (.bool false)], args := [d1, d2, d3] }
  | _ => none }
def FnExactRightInnerWrongFalsely : Prop := fnExactRightInnerRow.holds Try.pinned (OpenSpec.ofChange fnExactRightInnerWrong)

/-- 'laws.FnExactRightNucleus': WHATEVER THE INPUT: true; the input reads as it did. -/
def fnExactRightNucleusSpec : ChangeSpec := { name := "fnExactRightNucleus", fn := fun _ => fun
  | [d] => { results := [.lit (.bool true)], args := [d] }
  | _ => none }
def fnExactRightNucleusRow : OpenClaim := { program := "ytopkdpgbjpjgjaa", sum := "ae78bd191b331ba31295ac27f1cc520ba28a110b58e61bab8c1884e815de2f42", func := "loop.example/g01195/laws.FnExactRightNucleus", spec := "fnExactRightNucleus", unfollowed := true, recurses := true, apart := false }
def FnExactRightNucleusSaid : Prop := fnExactRightNucleusRow.holds Try.pinned (OpenSpec.ofChange fnExactRightNucleusSpec)

/-- ITS FALSE NEIGHBOUR: 'it returns false'. Refute it at one input. -/
def fnExactRightNucleusWrong : ChangeSpec := { name := "fnExactRightNucleus", fn := fun _ => fun
  | [d] => { results := [.lit (.bool false)], args := [d] }
  | _ => none }
def FnExactRightNucleusWrongFalsely : Prop := fnExactRightNucleusRow.holds Try.pinned (OpenSpec.ofChange fnExactRightNucleusWrong)

/-- 'laws.FnExactTurnMap': WHATEVER THE INPUT: true; the input reads as it did. -/
def fnExactTurnMapSpec : ChangeSpec := { name := "fnExactTurnMap", fn := fun _ => fun
  | [d1, d2] => { results := [.lit (.bool true)], args := [d1, d2] }
  | _ => none }
def fnExactTurnMapRow : OpenClaim := { program := "ytopkdpgbjpjgjaa", sum := "ae78bd191b331ba31295ac27f1cc520ba28a110b58e61bab8c1884e815de2f42", func := "loop.example/g01195/laws.FnExactTurnMap", spec := "fnExactTurnMap", unfollowed := true, recurses := true, apart := false }
def FnExactTurnMapSaid : Prop := fnExactTurnMapRow.holds Try.pinned (OpenSpec.ofChange fnExactTurnMapSpec)

/-- ITS FALSE NEIGHBOUR: 'it returns false'. Refute it at one input. -/
def fnExactTurnMapWrong : ChangeSpec := { name := "fnExactTurnMap", fn := fun _ => fun
  | [d1, d2] => { results := [.lit (.bool false)], args := [d1, d2] }
  | _ => none }
def FnExactTurnMapWrongFalsely : Prop := fnExactTurnMapRow.holds Try.pinned (OpenSpec.ofChange fnExactTurnMapWrong)

/-- 'laws.FnExactParastropheOf': WHATEVER THE INPUT: true; the input reads as it did. -/
def fnExactParastropheOfSpec : ChangeSpec := { name := "fnExactParastropheOf", fn := fun _ => fun
  | [d1, d2] => { results := [.lit (.bool true)], args := [d1, d2] }
  | _ => none }
def fnExactParastropheOfRow : OpenClaim := { program := "ytopkdpgbjpjgjaa", sum := "ae78bd191b331ba31295ac27f1cc520ba28a110b58e61bab8c1884e815de2f42", func := "loop.example/g01195/laws.FnExactParastropheOf", spec := "fnExactParastropheOf", unfollowed := true, recurses := true, apart := false }
def FnExactParastropheOfSaid : Prop := fnExactParastropheOfRow.holds Try.pinned (OpenSpec.ofChange fnExactParastropheOfSpec)

/-- ITS FALSE NEIGHBOUR: 'it returns false'. Refute it at one input. -/
def fnExactParastropheOfWrong : ChangeSpec := { name := "fnExactParastropheOf", fn := fun _ => fun
  | [d1, d2] => { results := [.lit (.bool false)], args := [d1, d2] }
  | _ => none }
def FnExactParastropheOfWrongFalsely : Prop := fnExactParastropheOfRow.holds Try.pinned (OpenSpec.ofChange fnExactParastropheOfWrong)

/-- 'laws.FnExactSwitchCycle': WHATEVER THE INPUT: true; the input reads as it did. -/
def fnExactSwitchCycleSpec : ChangeSpec := { name := "fnExactSwitchCycle", fn := fun _ => fun
  | [d1, d2, d3, d4] => { results := [.lit (.bool true)], args := [d1, d2, d3, d4] }
  | _ => none }
def fnExactSwitchCycleRow : OpenClaim := { program := "ytopkdpgbjpjgjaa", sum := "ae78bd191b331ba31295ac27f1cc520ba28a110b58e61bab8c1884e815de2f42", func := "loop.example/g01195/laws.FnExactSwitchCycle", spec := "fnExactSwitchCycle", apart := false }
def FnExactSwitchCycleSaid : Prop := fnExactSwitchCycleRow.holds Try.pinned (OpenSpec.ofChange fnExactSwitchCycleSpec)

/-- ITS FALSE NEIGHBOUR: 'it returns false'. Refute it at one input. -/
def fnExactSwitchCycleWrong : ChangeSpec := { name := "fnExactSwitchCycle", fn := fun _ => fun
  | [d1, d2, d3, d4] => { results := [.lit (.bool false)], args := [d1, d2, d3, d4] }
  | _ => none }
def FnExactSwitchCycleWrongFalsely : Prop := fnExactSwitchCycleRow.holds Try.pinned (OpenSpec.ofChange fnExactSwitchCycleWrong)

/-- 'laws.FnExactLoopAt': WHATEVER THE INPUT: true; the input reads as it did. -/
def fnExactLoopAtSpec : ChangeSpec := { name := "fnExactLoopAt", fn := fun _ => fun
  | [d1, d2, d3] => { results := [.lit (.bool true)], args := [d1, d2, d3] }
  | _ => none }
def fnExactLoopAtRow : OpenClaim := { program := "ytopkdpgbjpjgjaa", sum := "ae78bd191b331ba31295ac27f1cc520ba28a110b58e61bab8c1884e815de2f42", func := "loop.example/g01195/laws.FnExactLoopAt", spec := "fnExactLoopAt", apart := false }
def FnExactLoopAtSaid : Prop := fnExactLoopAtRow.holds Try.pinned (OpenSpec.ofChange fnExactLoopAtSpec)

/-- ITS FALSE NEIGHBOUR: 'it returns false'. Refute it at one input. -/
def fnExactLoopAtWrong : ChangeSpec := { name := "fnExactLoopAt", fn := fun _ => fun
  | [d1, d2, d3] => { results := [.lit (.bool false)], args := [d1, d2, d3] }
  | _ => none }
def FnExactLoopAtWrongFalsely : Prop := fnExactLoopAtRow.holds Try.pinned (OpenSpec.ofChange fnExactLoopAtWrong)

/-- 'laws.FnExactIsotopeFor': WHATEVER THE INPUT: true; the input reads as it did. -/
def fnExactIsotopeForSpec : ChangeSpec := { name := "fnExactIsotopeFor", fn := fun _ => fun
  | [d1, d2, d3] => { results := [.lit (.bool true)], args := [d1, d2, d3] }
  | _ => none }
def fnExactIsotopeForRow : OpenClaim := { program := "ytopkdpgbjpjgjaa", sum := "ae78bd191b331ba31295ac27f1cc520ba28a110b58e61bab8c1884e815de2f42", func := "loop.example/g01195/laws.FnExactIsotopeFor", spec := "fnExactIsotopeFor", unfollowed := true, recurses := true, apart := false }
def FnExactIsotopeForSaid : Prop := fnExactIsotopeForRow.holds Try.pinned (OpenSpec.ofChange fnExactIsotopeForSpec)

/-- ITS FALSE NEIGHBOUR: 'it returns false'. Refute it at one input. -/
def fnExactIsotopeForWrong : ChangeSpec := { name := "fnExactIsotopeFor", fn := fun _ => fun
  | [d1, d2, d3] => { results := [.lit (.bool false)], args := [d1, d2, d3] }
  | _ => none }
def FnExactIsotopeForWrongFalsely : Prop := fnExactIsotopeForRow.holds Try.pinned (OpenSpec.ofChange fnExactIsotopeForWrong)

/-- 'laws.FnExactDoubleOfGroup': WHATEVER THE INPUT: true; the input reads as it did. -/
def fnExactDoubleOfGroupSpec : ChangeSpec := { name := "fnExactDoubleOfGroup", fn := fun _ => fun
  | [d] => { results := [.lit (.bool true)], args := [d] }
  | _ => none }
def fnExactDoubleOfGroupRow : OpenClaim := { program := "ytopkdpgbjpjgjaa", sum := "ae78bd191b331ba31295ac27f1cc520ba28a110b58e61bab8c1884e815de2f42", func := "loop.example/g01195/laws.FnExactDoubleOfGroup", spec := "fnExactDoubleOfGroup", unfollowed := true, recurses := true, apart := false }
def FnExactDoubleOfGroupSaid : Prop := fnExactDoubleOfGroupRow.holds Try.pinned (OpenSpec.ofChange fnExactDoubleOfGroupSpec)

/-- ITS FALSE NEIGHBOUR: 'it returns false'. Refute it at one input. -/
def fnExactDoubleOfGroupWrong : ChangeSpec := { name := "fnExactDoubleOfGroup", fn := fun _ => fun
  | [d] => { results := [.lit (.bool false)], args := [d] }
  | _ => none }
def FnExactDoubleOfGroupWrongFalsely : Prop := fnExactDoubleOfGroupRow.holds Try.pinned (OpenSpec.ofChange fnExactDoubleOfGroupWrong)

/- THE SECOND FORM. 'bulk': how many values and letters a reading holds, each counted each time it is reached (what is shared counts as often as it is met; a slice's spare places count too). A statement '..UptoSaid' is the law's where the arguments, and the package variables that the reading takes, are together of bulk at most 1048576: NARROWER than '..Said'. Prove '..Said' where nothing that the law and all that it calls make is longer than what came in: it says more and counts as full. Else prove '..UptoSaid'. A law counts once. -/
mutual
def uptoBulk {H : Type} : DataW H → Nat
  | .lit (.string bytes) => bytes.length + 1
  | .lit _ => 1
  | .nil => 1
  | .ptr d => uptoBulk d + 1
  | .slice elems spare => uptoBulkAll elems + uptoBulkAll spare + 1
  | .agg parts => uptoBulkAll parts + 1
  | .iface _ d => uptoBulk d + 1
  | .map entries => uptoBulkEntries entries + 1
  | .held _ => 1
def uptoBulkAll {H : Type} : List (DataW H) → Nat
  | [] => 0
  | d :: r => uptoBulk d + uptoBulkAll r
def uptoBulkEntries {H : Type} : List (Lit × DataW H) → Nat
  | [] => 0
  | x :: r => uptoBulkEntry x + uptoBulkEntries r
def uptoBulkEntry {H : Type} : Lit × DataW H → Nat
  | (.string bytes, d) => bytes.length + uptoBulk d + 1
  | (_, d) => uptoBulk d + 1
 end
def uptoSmall : (H : Type) → List (DataW H) → Bool := fun _ ds => decide (uptoBulkAll ds ≤ 1048576)
def OpenSpec.upto (s : _root_.Go.ChangeSpec) : _root_.Go.OpenSpec := { _root_.Go.OpenSpec.ofChange s with cond := some uptoSmall }

/-- 'laws.FnExactLeftInner', WHERE WHAT IT READS IS OF BULK AT MOST 1048576: true; the input reads as it did. -/
def fnExactLeftInnerUptoRow : OpenClaim := { program := "ytopkdpgbjpjgjaa", sum := "ae78bd191b331ba31295ac27f1cc520ba28a110b58e61bab8c1884e815de2f42", func := "loop.example/g01195/laws.FnExactLeftInner", spec := "fnExactLeftInner", unfollowed := true, recurses := true, apart := false, narrowed := true }
def FnExactLeftInnerUptoSaid : Prop := fnExactLeftInnerUptoRow.holds Try.pinned (OpenSpec.upto fnExactLeftInnerSpec)

/-- 'laws.FnExactNewDesk', WHERE WHAT IT READS IS OF BULK AT MOST 1048576: true; the input reads as it did. -/
def fnExactNewDeskUptoRow : OpenClaim := { program := "ytopkdpgbjpjgjaa", sum := "ae78bd191b331ba31295ac27f1cc520ba28a110b58e61bab8c1884e815de2f42", func := "loop.example/g01195/laws.FnExactNewDesk", spec := "fnExactNewDesk", unfollowed := true, recurses := true, apart := false, narrowed := true }
def FnExactNewDeskUptoSaid : Prop := fnExactNewDeskUptoRow.holds Try.pinned (OpenSpec.upto fnExactNewDeskSpec)

/-- 'laws.FnExactLeftNucleus', WHERE WHAT IT READS IS OF BULK AT MOST 1048576: true; the input reads as it did. -/
def fnExactLeftNucleusUptoRow : OpenClaim := { program := "ytopkdpgbjpjgjaa", sum := "ae78bd191b331ba31295ac27f1cc520ba28a110b58e61bab8c1884e815de2f42", func := "loop.example/g01195/laws.FnExactLeftNucleus", spec := "fnExactLeftNucleus", unfollowed := true, recurses := true, apart := false, narrowed := true }
def FnExactLeftNucleusUptoSaid : Prop := fnExactLeftNucleusUptoRow.holds Try.pinned (OpenSpec.upto fnExactLeftNucleusSpec)

/-- 'laws.FnExactMiddleNucleus', WHERE WHAT IT READS IS OF BULK AT MOST 1048576: true; the input reads as it did. -/
def fnExactMiddleNucleusUptoRow : OpenClaim := { program := "ytopkdpgbjpjgjaa", sum := "ae78bd191b331ba31295ac27f1cc520ba28a110b58e61bab8c1884e815de2f42", func := "loop.example/g01195/laws.FnExactMiddleNucleus", spec := "fnExactMiddleNucleus", unfollowed := true, recurses := true, apart := false, narrowed := true }
def FnExactMiddleNucleusUptoSaid : Prop := fnExactMiddleNucleusUptoRow.holds Try.pinned (OpenSpec.upto fnExactMiddleNucleusSpec)

/-- 'laws.FnExactRightInner', WHERE WHAT IT READS IS OF BULK AT MOST 1048576: true; the input reads as it did. -/
def fnExactRightInnerUptoRow : OpenClaim := { program := "ytopkdpgbjpjgjaa", sum := "ae78bd191b331ba31295ac27f1cc520ba28a110b58e61bab8c1884e815de2f42", func := "loop.example/g01195/laws.FnExactRightInner", spec := "fnExactRightInner", unfollowed := true, recurses := true, apart := false, narrowed := true }
def FnExactRightInnerUptoSaid : Prop := fnExactRightInnerUptoRow.holds Try.pinned (OpenSpec.upto fnExactRightInnerSpec)

/-- 'laws.FnExactRightNucleus', WHERE WHAT IT READS IS OF BULK AT MOST 1048576: true; the input reads as it did. -/
def fnExactRightNucleusUptoRow : OpenClaim := { program := "ytopkdpgbjpjgjaa", sum := "ae78bd191b331ba31295ac27f1cc520ba28a110b58e61bab8c1884e815de2f42", func := "loop.example/g01195/laws.FnExactRightNucleus", spec := "fnExactRightNucleus", unfollowed := true, recurses := true, apart := false, narrowed := true }
def FnExactRightNucleusUptoSaid : Prop := fnExactRightNucleusUptoRow.holds Try.pinned (OpenSpec.upto fnExactRightNucleusSpec)

/-- 'laws.FnExactTurnMap', WHERE WHAT IT READS IS OF BULK AT MOST 1048576: true; the input reads as it did. -/
def fnExactTurnMapUptoRow : OpenClaim := { program := "ytopkdpgbjpjgjaa", sum := "ae78bd191b331ba31295ac27f1cc520ba28a110b58e61bab8c1884e815de2f42", func := "loop.example/g01195/laws.FnExactTurnMap", spec := "fnExactTurnMap", unfollowed := true, recurses := true, apart := false, narrowed := true }
def FnExactTurnMapUptoSaid : Prop := fnExactTurnMapUptoRow.holds Try.pinned (OpenSpec.upto fnExactTurnMapSpec)

/-- 'laws.FnExactParastropheOf', WHERE WHAT IT READS IS OF BULK AT MOST 1048576: true; the input reads as it did. -/
def fnExactParastropheOfUptoRow : OpenClaim := { program := "ytopkdpgbjpjgjaa", sum := "ae78bd191b331ba31295ac27f1cc520ba28a110b58e61bab8c1884e815de2f42", func := "loop.example/g01195/laws.FnExactParastropheOf", spec := "fnExactParastropheOf", unfollowed := true, recurses := true, apart := false, narrowed := true }
def FnExactParastropheOfUptoSaid : Prop := fnExactParastropheOfUptoRow.holds Try.pinned (OpenSpec.upto fnExactParastropheOfSpec)

/-- 'laws.FnExactSwitchCycle', WHERE WHAT IT READS IS OF BULK AT MOST 1048576: true; the input reads as it did. -/
def fnExactSwitchCycleUptoRow : OpenClaim := { program := "ytopkdpgbjpjgjaa", sum := "ae78bd191b331ba31295ac27f1cc520ba28a110b58e61bab8c1884e815de2f42", func := "loop.example/g01195/laws.FnExactSwitchCycle", spec := "fnExactSwitchCycle", apart := false, narrowed := true }
def FnExactSwitchCycleUptoSaid : Prop := fnExactSwitchCycleUptoRow.holds Try.pinned (OpenSpec.upto fnExactSwitchCycleSpec)

/-- 'laws.FnExactLoopAt', WHERE WHAT IT READS IS OF BULK AT MOST 1048576: true; the input reads as it did. -/
def fnExactLoopAtUptoRow : OpenClaim := { program := "ytopkdpgbjpjgjaa", sum := "ae78bd191b331ba31295ac27f1cc520ba28a110b58e61bab8c1884e815de2f42", func := "loop.example/g01195/laws.FnExactLoopAt", spec := "fnExactLoopAt", apart := false, narrowed := true }
def FnExactLoopAtUptoSaid : Prop := fnExactLoopAtUptoRow.holds Try.pinned (OpenSpec.upto fnExactLoopAtSpec)

/-- 'laws.FnExactIsotopeFor', WHERE WHAT IT READS IS OF BULK AT MOST 1048576: true; the input reads as it did. -/
def fnExactIsotopeForUptoRow : OpenClaim := { program := "ytopkdpgbjpjgjaa", sum := "ae78bd191b331ba31295ac27f1cc520ba28a110b58e61bab8c1884e815de2f42", func := "loop.example/g01195/laws.FnExactIsotopeFor", spec := "fnExactIsotopeFor", unfollowed := true, recurses := true, apart := false, narrowed := true }
def FnExactIsotopeForUptoSaid : Prop := fnExactIsotopeForUptoRow.holds Try.pinned (OpenSpec.upto fnExactIsotopeForSpec)

/-- 'laws.FnExactDoubleOfGroup', WHERE WHAT IT READS IS OF BULK AT MOST 1048576: true; the input reads as it did. -/
def fnExactDoubleOfGroupUptoRow : OpenClaim := { program := "ytopkdpgbjpjgjaa", sum := "ae78bd191b331ba31295ac27f1cc520ba28a110b58e61bab8c1884e815de2f42", func := "loop.example/g01195/laws.FnExactDoubleOfGroup", spec := "fnExactDoubleOfGroup", unfollowed := true, recurses := true, apart := false, narrowed := true }
def FnExactDoubleOfGroupUptoSaid : Prop := fnExactDoubleOfGroupUptoRow.holds Try.pinned (OpenSpec.upto fnExactDoubleOfGroupSpec)

end Rows
end Go.Proofs.Ytopkdpgbjpjgjaa

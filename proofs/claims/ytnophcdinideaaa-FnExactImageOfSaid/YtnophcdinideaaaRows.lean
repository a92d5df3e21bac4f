/-
  No cell of these rows narrows 'for every input' (looked for: loops, veiled, ifaces, maps, wideKeys, modest, calm, conditions, laid).
  DERIVED. THE GIVEN ROWS OF THIS SEAT. 12 by the template 'for every input the law returns true; each argument reads behind the call as it read before'; 0 by the template 'total and deterministic' (their statements: YtnophcdinideaaaTotals.lean).
  GIVEN WITH THE SEED: the statements are not yours to turn. If you find one false, say at which input.
  Laid BY PROGRAM, IN A SANDBOX (cutbox-rows.mjs): the forced cells as the released guide's own fill.sh prints them over the translation e252f9e0ccce0153… (all of the seat's roots in one cut). By AI agents, Wed Nov 11 2026. No macro, syntax, notation, axiom, sorry.
-/
import Derived.Test.YtnophcdinideaaaChecked
import GoSem.Claim
import GoSem.ClaimJoined
import GoSem.ClaimMapViews
import Derived.JoinedTies
import Derived.KernelRfl
namespace Go.Proofs.Ytnophcdinideaaa
/- THE CELL 'sum', in the pinned program and in every row, IS THE sha256 OF THE DUMP (.gsa) THAT YtnophcdinideaaaProg.lean LOADS. Nothing in Lean hashes anything: it is a label: what it is worth is what the hold of that sum in a sandbox is worth. -/
noncomputable def Try.pinned : Pinned := { name := "ytnophcdinideaaa", sum := "e252f9e0ccce0153c32b2f46f511ea4d268aacfad352fac10b43a9d08ca9d27d", checked := Try.checked }
namespace Rows
def none {H : Type} : Left H := { results := [], args := [] }

/-- 'laws.FnExactAugmentationOf': WHATEVER THE INPUT: true; the input reads as it did. -/
def fnExactAugmentationOfSpec : ChangeSpec := { name := "fnExactAugmentationOf", fn := fun _ => fun
  | [d1, d2, d3] => { results := [.lit (.bool true)], args := [d1, d2, d3] }
  | _ => none }
def fnExactAugmentationOfRow : OpenClaim := { program := "ytnophcdinideaaa", sum := "e252f9e0ccce0153c32b2f46f511ea4d268aacfad352fac10b43a9d08ca9d27d", func := "loop.example/g01195/laws.FnExactAugmentationOf", spec := "fnExactAugmentationOf", apart := false }
def FnExactAugmentationOfSaid : Prop := fnExactAugmentationOfRow.holds Try.pinned (OpenSpec.ofChange fnExactAugmentationOfSpec)

/-- ITS FALSE NEIGHBOUR: 'it returns false'. Refute it at one input. -/
def fnExactAugmentationOfWrong : ChangeSpec := { name := "fnExactAugmentationOf", fn := fun _ => fun
  | [d1, d2, d3] => { results := [.lit (.bool false)], args := [d1, d2, d3] }
  | _ => none }
def FnExactAugmentationOfWrongFalsely : Prop := fnExactAugmentationOfRow.holds Try.pinned (OpenSpec.ofChange fnExactAugmentationOfWrong)

/-- 'laws.FnExactAddSums': WHATEVER THE INPUT: true; the input reads as it did. -/
def fnExactAddSumsSpec : ChangeSpec := { name := "fnExactAddSums", fn := fun _ => fun
  | [d1, d2, d3, d4] => { results := [.lit (.bool true)], args := [d1, d2, d3, d4] }
  | _ => none }
def fnExactAddSumsRow : OpenClaim := { program := "ytnophcdinideaaa", sum := "e252f9e0ccce0153c32b2f46f511ea4d268aacfad352fac10b43a9d08ca9d27d", func := "loop.example/g01195/laws.FnExactAddSums", spec := "fnExactAddSums", apart := false }
def FnExactAddSumsSaid : Prop := fnExactAddSumsRow.holds Try.pinned (OpenSpec.ofChange fnExactAddSumsSpec)

/-- ITS FALSE NEIGHBOUR: 'it returns false'. Refute it at one input. -/
def fnExactAddSumsWrong : ChangeSpec := { name := "fnExactAddSums", fn := fun _ => fun
  | [d1, d2, d3, d4] => { results := [.lit (.bool false)], args := [d1, d2, d3, d4] }
  | _ => none }
def FnExactAddSumsWrongFalsely : Prop := fnExactAddSumsRow.holds Try.pinned (OpenSpec.ofChange fnExactAddSumsWrong)

/-- 'laws.FnExactMultiplySums': WHATEVER THE INPUT: true; the input reads as it did. -/
def fnExactMultiplySumsSpec : ChangeSpec := { name := "fnExactMultiplySums", fn := fun _ => fun
  | [d1, d2, d3, d4] => { results := [.lit (.bool true)], args := [d1, d2, d3, d4] }
  | _ => none }
def fnExactMultiplySumsRow : OpenClaim := { program := "ytnophcdinideaaa", sum := "e252f9e0ccce0153c32b2f46f511ea4d268aacfad352fac10b43a9d08ca9d27d", func := "loop.example/g01195/laws.FnExactMultiplySums", spec := "fnExactMultiplySums", apart := false }
def FnExactMultiplySumsSaid : Prop := fnExactMultiplySumsRow.holds Try.pinned (OpenSpec.ofChange fnExactMultiplySumsSpec)

/-- ITS FALSE NEIGHBOUR: 'it returns false'. Refute it at one input. -/
def fnExactMultiplySumsWrong : ChangeSpec := { name := "fnExactMultiplySums", fn := fun _ => fun
  | [d1, d2, d3, d4] => { results := [.lit (.bool false)], args := [d1, d2, d3, d4] }
  | _ => none }
def FnExactMultiplySumsWrongFalsely : Prop := fnExactMultiplySumsRow.holds Try.pinned (OpenSpec.ofChange fnExactMultiplySumsWrong)

/-- 'laws.FnExactAssociatorOfSums': WHATEVER THE INPUT: true; the input reads as it did. -/
def fnExactAssociatorOfSumsSpec : ChangeSpec := { name := "fnExactAssociatorOfSums", fn := fun _ => fun
  | [d1, d2, d3, d4, d5] => { results := [.lit (.bool true)], args := [d1, d2, d3, d4, d5] }
  | _ => none }
def fnExactAssociatorOfSumsRow : OpenClaim := { program := "ytnophcdinideaaa", sum := "e252f9e0ccce0153c32b2f46f511ea4d268aacfad352fac10b43a9d08ca9d27d", func := "loop.example/g01195/laws.FnExactAssociatorOfSums", spec := "fnExactAssociatorOfSums", apart := false }
def FnExactAssociatorOfSumsSaid : Prop := fnExactAssociatorOfSumsRow.holds Try.pinned (OpenSpec.ofChange fnExactAssociatorOfSumsSpec)

/-- ITS FALSE NEIGHBOUR: 'it returns false'. Refute it at one input. -/
def fnExactAssociatorOfSumsWrong : ChangeSpec := { name := "fnExactAssociatorOfSums", fn := fun _ => fun
  | [d1, d2, d3, d4, d5] => { results := [.lit (.bool false)], args := [d1, d2, d3, d4, d5] }
  | _ => none }
def FnExactAssociatorOfSumsWrongFalsely : Prop := fnExactAssociatorOfSumsRow.holds Try.pinned (OpenSpec.ofChange fnExactAssociatorOfSumsWrong)

/-- 'laws.FnExactPowerOfSum': WHATEVER THE INPUT: true; the input reads as it did. -/
def fnExactPowerOfSumSpec : ChangeSpec := { name := "fnExactPowerOfSum", fn := fun _ => fun
  | [d1, d2, d3, d4] => { results := [.lit (.bool true)], args := [d1, d2, d3, d4] }
  | _ => none }
def fnExactPowerOfSumRow : OpenClaim := { program := "ytnophcdinideaaa", sum := "e252f9e0ccce0153c32b2f46f511ea4d268aacfad352fac10b43a9d08ca9d27d", func := "loop.example/g01195/laws.FnExactPowerOfSum", spec := "fnExactPowerOfSum", apart := false }
def FnExactPowerOfSumSaid : Prop := fnExactPowerOfSumRow.holds Try.pinned (OpenSpec.ofChange fnExactPowerOfSumSpec)

/-- ITS FALSE NEIGHBOUR: 'it returns false'. Refute it at one input. -/
def fnExactPowerOfSumWrong : ChangeSpec := { name := "fnExactPowerOfSum", fn := fun _ => fun
  | [d1, d2, d3, d4] => { results := [.lit (.bool false)], args := [d1, d2, d3, d4] }
  | _ => none }
def FnExactPowerOfSumWrongFalsely : Prop := fnExactPowerOfSumRow.holds Try.pinned (OpenSpec.ofChange fnExactPowerOfSumWrong)

/-- 'laws.FnExactIsAlternativeRing': WHATEVER THE INPUT: true; the input reads as it did. -/
def fnExactIsAlternativeRingSpec : ChangeSpec := { name := "fnExactIsAlternativeRing", fn := fun _ => fun
  | [d1, d2] => { results := [.lit (.bool true)], args := [d1, d2] }
  | _ => none }
def fnExactIsAlternativeRingRow : OpenClaim := { program := "ytnophcdinideaaa", sum := "e252f9e0ccce0153c32b2f46f511ea4d268aacfad352fac10b43a9d08ca9d27d", func := "loop.example/g01195/laws.FnExactIsAlternativeRing", spec := "fnExactIsAlternativeRing", unfollowed := true, recurses := true, apart := false }
def FnExactIsAlternativeRingSaid : Prop := fnExactIsAlternativeRingRow.holds Try.pinned (OpenSpec.ofChange fnExactIsAlternativeRingSpec)

/-- ITS FALSE NEIGHBOUR: 'it returns false'. Refute it at one input. -/
def fnExactIsAlternativeRingWrong : ChangeSpec := { name := "fnExactIsAlternativeRing", fn := fun _ => fun
  | [d1, d2] => { results := [.lit (.bool false)], args := [d1, d2] }
  | _ => none }
def FnExactIsAlternativeRingWrongFalsely : Prop := fnExactIsAlternativeRingRow.holds Try.pinned (OpenSpec.ofChange fnExactIsAlternativeRingWrong)

/-- 'laws.FnExactSwitchIntercalate': WHATEVER THE INPUT: true; the input reads as it did. -/
def fnExactSwitchIntercalateSpec : ChangeSpec := { name := "fnExactSwitchIntercalate", fn := fun _ => fun
  | [d1, d2] => { results := [.lit (.bool true)], args := [d1, d2] }
  | _ => none }
def fnExactSwitchIntercalateRow : OpenClaim := { program := "ytnophcdinideaaa", sum := "e252f9e0ccce0153c32b2f46f511ea4d268aacfad352fac10b43a9d08ca9d27d", func := "loop.example/g01195/laws.FnExactSwitchIntercalate", spec := "fnExactSwitchIntercalate", apart := false }
def FnExactSwitchIntercalateSaid : Prop := fnExactSwitchIntercalateRow.holds Try.pinned (OpenSpec.ofChange fnExactSwitchIntercalateSpec)

/-- ITS FALSE NEIGHBOUR: 'it returns false'. Refute it at one input. -/
def fnExactSwitchIntercalateWrong : ChangeSpec := { name := "fnExactSwitchIntercalate", fn := fun _ => fun
  | [d1, d2] => { results := [.lit (.bool false)], args := [d1, d2] }
  | _ => none }
def FnExactSwitchIntercalateWrongFalsely : Prop := fnExactSwitchIntercalateRow.holds Try.pinned (OpenSpec.ofChange fnExactSwitchIntercalateWrong)

/-- 'laws.FnExactIsSubloop': WHATEVER THE INPUT: true; the input reads as it did. -/
def fnExactIsSubloopSpec : ChangeSpec := { name := "fnExactIsSubloop", fn := fun _ => fun
  | [d1, d2] => { results := [.lit (.bool true)], args := [d1, d2] }
  | _ => none }
def fnExactIsSubloopRow : OpenClaim := { program := "ytnophcdinideaaa", sum := "e252f9e0ccce0153c32b2f46f511ea4d268aacfad352fac10b43a9d08ca9d27d", func := "loop.example/g01195/laws.FnExactIsSubloop", spec := "fnExactIsSubloop", apart := false }
def FnExactIsSubloopSaid : Prop := fnExactIsSubloopRow.holds Try.pinned (OpenSpec.ofChange fnExactIsSubloopSpec)

/-- ITS FALSE NEIGHBOUR: 'it returns false'. Refute it at one input. -/
def fnExactIsSubloopWrong : ChangeSpec := { name := "fnExactIsSubloop", fn := fun _ => fun
  | [d1, d2] => { results := [.lit (.bool false)], args := [d1, d2] }
  | _ => none }
def FnExactIsSubloopWrongFalsely : Prop := fnExactIsSubloopRow.holds Try.pinned (OpenSpec.ofChange fnExactIsSubloopWrong)

/-- 'laws.FnExactSubloopOf': WHATEVER THE INPUT: true; the input reads as it did. -/
def fnExactSubloopOfSpec : ChangeSpec := { name := "fnExactSubloopOf", fn := fun _ => fun
  | [d1, d2] => { results := [.lit (.bool true)], args := [d1, d2] }
  | _ => none }
def fnExactSubloopOfRow : OpenClaim := { program := "ytnophcdinideaaa", sum := "e252f9e0ccce0153c32b2f46f511ea4d268aacfad352fac10b43a9d08ca9d27d", func := "loop.example/g01195/laws.FnExactSubloopOf", spec := "fnExactSubloopOf", apart := false }
def FnExactSubloopOfSaid : Prop := fnExactSubloopOfRow.holds Try.pinned (OpenSpec.ofChange fnExactSubloopOfSpec)

/-- ITS FALSE NEIGHBOUR: 'it returns false'. Refute it at one input. -/
def fnExactSubloopOfWrong : ChangeSpec := { name := "fnExactSubloopOf", fn := fun _ => fun
  | [d1, d2] => { results := [.lit (.bool false)], args := [d1, d2] }
  | _ => none }
def FnExactSubloopOfWrongFalsely : Prop := fnExactSubloopOfRow.holds Try.pinned (OpenSpec.ofChange fnExactSubloopOfWrong)

/-- 'laws.FnExactKernelOf': WHATEVER THE INPUT: true; the input reads as it did. -/
def fnExactKernelOfSpec : ChangeSpec := { name := "fnExactKernelOf", fn := fun _ => fun
  | [d1, d2, d3] => { results := [.lit (.bool true)], args := [d1, d2, d3] }
  | _ => none }
def fnExactKernelOfRow : OpenClaim := { program := "ytnophcdinideaaa", sum := "e252f9e0ccce0153c32b2f46f511ea4d268aacfad352fac10b43a9d08ca9d27d", func := "loop.example/g01195/laws.FnExactKernelOf", spec := "fnExactKernelOf", unfollowed := true, recurses := true, apart := false }
def FnExactKernelOfSaid : Prop := fnExactKernelOfRow.holds Try.pinned (OpenSpec.ofChange fnExactKernelOfSpec)

/-- ITS FALSE NEIGHBOUR: 'it returns false'. Refute it at one input. -/
def fnExactKernelOfWrong : ChangeSpec := { name := "fnExactKernelOf", fn := fun _ => fun
  | [d1, d2, d3] => { results := [.lit (.bool false)], args := [d1, d2, d3] }
  | _ => none }
def FnExactKernelOfWrongFalsely : Prop := fnExactKernelOfRow.holds Try.pinned (OpenSpec.ofChange fnExactKernelOfWrong)

/-- 'laws.FnExactImageOf': WHATEVER THE INPUT: true; the input reads as it did. -/
def fnExactImageOfSpec : ChangeSpec := { name := "fnExactImageOf", fn := fun _ => fun
  | [d1, d2, d3] => { results := [.lit (.bool true)], args := [d1, d2, d3] }
  | _ => none }
def fnExactImageOfRow : OpenClaim := { program := "ytnophcdinideaaa", sum := "e252f9e0ccce0153c32b2f46f511ea4d268aacfad352fac10b43a9d08ca9d27d", func := "loop.example/g01195/laws.FnExactImageOf", spec := "fnExactImageOf", unfollowed := true, recurses := true, apart := false }
def FnExactImageOfSaid : Prop := fnExactImageOfRow.holds Try.pinned (OpenSpec.ofChange fnExactImageOfSpec)

/-- ITS FALSE NEIGHBOUR: 'it returns false'. Refute it at one input. -/
def fnExactImageOfWrong : ChangeSpec := { name := "fnExactImageOf", fn := fun _ => fun
  | [d1, d2, d3] => { results := [.lit (.bool false)], args := [d1, d2, d3] }
  | _ => none }
def FnExactImageOfWrongFalsely : Prop := fnExactImageOfRow.holds Try.pinned (OpenSpec.ofChange fnExactImageOfWrong)

/-- 'laws.FnExactExtendLoop': WHATEVER THE INPUT: true; the input reads as it did. -/
def fnExactExtendLoopSpec : ChangeSpec := { name := "fnExactExtendLoop", fn := fun _ => fun
  | [d1, d2, d3] => { results := [.lit (.bool true)], args := [d1, d2, d3] }
  | _ => none }
def fnExactExtendLoopRow : OpenClaim := { program := "ytnophcdinideaaa", sum := "e252f9e0ccce0153c32b2f46f511ea4d268aacfad352fac10b43a9d08ca9d27d", func := "loop.example/g01195/laws.FnExactExtendLoop", spec := "fnExactExtendLoop", unfollowed := true, recurses := true, apart := false }
def FnExactExtendLoopSaid : Prop := fnExactExtendLoopRow.holds Try.pinned (OpenSpec.ofChange fnExactExtendLoopSpec)

/-- ITS FALSE NEIGHBOUR: 'it returns false'. Refute it at one input. -/
def fnExactExtendLoopWrong : ChangeSpec := { name := "fnExactExtendLoop", fn := fun _ => fun
  | [d1, d2, d3] => { results := [.lit (.bool false)], args := [d1, d2, d3] }
  | _ => none }
def FnExactExtendLoopWrongFalsely : Prop := fnExactExtendLoopRow.holds Try.pinned (OpenSpec.ofChange fnExactExtendLoopWrong)

/- THE SECOND FORM. 'bulk': how many values and letters a reading holds, each counted each time it is reached (what is shared counts as often as it is met; a slice's spare places count too). A statement '..UptoSaid' is the law's where the arguments, and the package variables that the reading takes, are together of bulk at most 1048576: NARROWER than '..Said'. Prove '..Said' where nothing that the law and all that it calls make is longer than what came in: it says more and counts as full. Else prove '..UptoSaid'. A law counts once. -/
mutual
def uptoBulk {H : Type} : DataW H → Nat
  | .lit (.string bytes) => bytes.length + 1
  | .lit _ => 1
  | .nil => 1
  | .ptr d => uptoBulk d + 1
  | .slice elems spare => uptoBulkAll elems + uptoBulkAll spare + 1
  | .agg parts => uptoBulkAll parts + 1
  | .iface _ d => uptoBulk d + 1
  | .map entries => uptoBulkEntries entries + 1
  | .held _ => 1
def uptoBulkAll {H : Type} : List (DataW H) → Nat
  | [] => 0
  | d :: r => uptoBulk d + uptoBulkAll r
def uptoBulkEntries {H : Type} : List (Lit × DataW H) → Nat
  | [] => 0
  | x :: r => uptoBulkEntry x + uptoBulkEntries r
def uptoBulkEntry {H : Type} : Lit × DataW H → Nat
  | (.string bytes, d) => bytes.length + uptoBulk d + 1
  | (_, d) => uptoBulk d + 1
 end
def uptoSmall : (H : Type) → List (DataW H) → Bool := fun _ ds => decide (uptoBulkAll ds ≤ 1048576)
def OpenSpec.upto (s : _root_.Go.ChangeSpec) : _root_.Go.OpenSpec := { _root_.Go.OpenSpec.ofChange s with cond := some uptoSmall }

/-- 'laws.FnExactAugmentationOf', WHERE WHAT IT READS IS OF BULK AT MOST 1048576: true; the input reads as it did. -/
def fnExactAugmentationOfUptoRow : OpenClaim := { program := "ytnophcdinideaaa", sum := "e252f9e0ccce0153c32b2f46f511ea4d268aacfad352fac10b43a9d08ca9d27d", func := "loop.example/g01195/laws.FnExactAugmentationOf", spec := "fnExactAugmentationOf", apart := false, narrowed := true }
def FnExactAugmentationOfUptoSaid : Prop := fnExactAugmentationOfUptoRow.holds Try.pinned (OpenSpec.upto fnExactAugmentationOfSpec)

/-- 'laws.FnExactAddSums', WHERE WHAT IT READS IS OF BULK AT MOST 1048576: true; the input reads as it did. -/
def fnExactAddSumsUptoRow : OpenClaim := { program := "ytnophcdinideaaa", sum := "e252f9e0ccce0153c32b2f46f511ea4d268aacfad352fac10b43a9d08ca9d27d", func := "loop.example/g01195/laws.FnExactAddSums", spec := "fnExactAddSums", apart := false, narrowed := true }
def FnExactAddSumsUptoSaid : Prop := fnExactAddSumsUptoRow.holds Try.pinned (OpenSpec.upto fnExactAddSumsSpec)

/-- 'laws.FnExactMultiplySums', WHERE WHAT IT READS IS OF BULK AT MOST 1048576: true; the input reads as it did. -/
def fnExactMultiplySumsUptoRow : OpenClaim := { program := "ytnophcdinideaaa", sum := "e252f9e0ccce0153c32b2f46f511ea4d268aacfad352fac10b43a9d08ca9d27d", func := "loop.example/g01195/laws.FnExactMultiplySums", spec := "fnExactMultiplySums", apart := false, narrowed := true }
def FnExactMultiplySumsUptoSaid : Prop := fnExactMultiplySumsUptoRow.holds Try.pinned (OpenSpec.upto fnExactMultiplySumsSpec)

/-- 'laws.FnExactAssociatorOfSums', WHERE WHAT IT READS IS OF BULK AT MOST 1048576: true; the input reads as it did. -/
def fnExactAssociatorOfSumsUptoRow : OpenClaim := { program := "ytnophcdinideaaa", sum := "e252f9e0ccce0153c32b2f46f511ea4d268aacfad352fac10b43a9d08ca9d27d", func := "loop.example/g01195/laws.FnExactAssociatorOfSums", spec := "fnExactAssociatorOfSums", apart := false, narrowed := true }
def FnExactAssociatorOfSumsUptoSaid : Prop := fnExactAssociatorOfSumsUptoRow.holds Try.pinned (OpenSpec.upto fnExactAssociatorOfSumsSpec)

/-- 'laws.FnExactPowerOfSum', WHERE WHAT IT READS IS OF BULK AT MOST 1048576: true; the input reads as it did. -/
def fnExactPowerOfSumUptoRow : OpenClaim := { program := "ytnophcdinideaaa", sum := "e252f9e0ccce0153c32b2f46f511ea4d268aacfad352fac10b43a9d08ca9d27d", func := "loop.example/g01195/laws.FnExactPowerOfSum", spec := "fnExactPowerOfSum", apart := false, narrowed := true }
def FnExactPowerOfSumUptoSaid : Prop := fnExactPowerOfSumUptoRow.holds Try.pinned (OpenSpec.upto fnExactPowerOfSumSpec)

/-- 'laws.FnExactIsAlternativeRing', WHERE WHAT IT READS IS OF BULK AT MOST 1048576: true; the input reads as it did. -/
def fnExactIsAlternativeRingUptoRow : OpenClaim := { program := "ytnophcdinideaaa", sum := "e252f9e0ccce0153c32b2f46f511ea4d268aacfad352fac10b43a9d08ca9d27d", func := "loop.example/g01195/laws.FnExactIsAlternativeRing", spec := "fnExactIsAlternativeRing", unfollowed := true, recurses := true, apart := false, narrowed := true }
def FnExactIsAlternativeRingUptoSaid : Prop := fnExactIsAlternativeRingUptoRow.holds Try.pinned (OpenSpec.upto fnExactIsAlternativeRingSpec)

/-- 'laws.FnExactSwitchIntercalate', WHERE WHAT IT READS IS OF BULK AT MOST 1048576: true; the input reads as it did. -/
def fnExactSwitchIntercalateUptoRow : OpenClaim := { program := "ytnophcdinideaaa", sum := "e252f9e0ccce0153c32b2f46f511ea4d268aacfad352fac10b43a9d08ca9d27d", func := "loop.example/g01195/laws.FnExactSwitchIntercalate", spec := "fnExactSwitchIntercalate", apart := false, narrowed := true }
def FnExactSwitchIntercalateUptoSaid : Prop := fnExactSwitchIntercalateUptoRow.holds Try.pinned (OpenSpec.upto fnExactSwitchIntercalateSpec)

/-- 'laws.FnExactIsSubloop', WHERE WHAT IT READS IS OF BULK AT MOST 1048576: true; the input reads as it did. -/
def fnExactIsSubloopUptoRow : OpenClaim := { program := "ytnophcdinideaaa", sum := "e252f9e0ccce0153c32b2f46f511ea4d268aacfad352fac10b43a9d08ca9d27d", func := "loop.example/g01195/laws.FnExactIsSubloop", spec := "fnExactIsSubloop", apart := false, narrowed := true }
def FnExactIsSubloopUptoSaid : Prop := fnExactIsSubloopUptoRow.holds Try.pinned (OpenSpec.upto fnExactIsSubloopSpec)

/-- 'laws.FnExactSubloopOf', WHERE WHAT IT READS IS OF BULK AT MOST 1048576: true; the input reads as it did. -/
def fnExactSubloopOfUptoRow : OpenClaim := { program := "ytnophcdinideaaa", sum := "e252f9e0ccce0153c32b2f46f511ea4d268aacfad352fac10b43a9d08ca9d27d", func := "loop.example/g01195/laws.FnExactSubloopOf", spec := "fnExactSubloopOf", apart := false, narrowed := true }
def FnExactSubloopOfUptoSaid : Prop := fnExactSubloopOfUptoRow.holds Try.pinned (OpenSpec.upto fnExactSubloopOfSpec)

/-- 'laws.FnExactKernelOf', WHERE WHAT IT READS IS OF BULK AT MOST 1048576: true; the input reads as it did. -/
def fnExactKernelOfUptoRow : OpenClaim := { program := "ytnophcdinideaaa", sum := "e252f9e0ccce0153c32b2f46f511ea4d268aacfad352fac10b43a9d08ca9d27d", func := "loop.example/g01195/laws.FnExactKernelOf", spec := "fnExactKernelOf", unfollowed := true, recurses := true, apart := false, narrowed := true }
def FnExactKernelOfUptoSaid : Prop := fnExactKernelOfUptoRow.holds Try.pinned (OpenSpec.upto fnExactKernelOfSpec)

/-- 'laws.FnExactImageOf', WHERE WHAT IT READS IS OF BULK AT MOST 1048576: true; the input reads as it did. -/
def fnExactImageOfUptoRow : OpenClaim := { program := "ytnophcdinideaaa", sum := "e252f9e0ccce0153c32b2f46f511ea4d268aacfad352fac10b43a9d08ca9d27d", func := "loop.example/g01195/laws.FnExactImageOf", spec := "fnExactImageOf", unfollowed := true, recurses := true, apart := false, narrowed := true }
def FnExactImageOfUptoSaid : Prop := fnExactImageOfUptoRow.holds Try.pinned (OpenSpec.upto fnExactImageOfSpec)

/-- 'laws.FnExactExtendLoop', WHERE WHAT IT READS IS OF BULK AT MOST 1048576: true; the input reads as it did. -/
def fnExactExtendLoopUptoRow : OpenClaim := { program := "ytnophcdinideaaa", sum := "e252f9e0ccce0153c32b2f46f511ea4d268aacfad352fac10b43a9d08ca9d27d", func := "loop.example/g01195/laws.FnExactExtendLoop", spec := "fnExactExtendLoop", unfollowed := true, recurses := true, apart := false, narrowed := true }
def FnExactExtendLoopUptoSaid : Prop := fnExactExtendLoopUptoRow.holds Try.pinned (OpenSpec.upto fnExactExtendLoopSpec)

end Rows
end Go.Proofs.Ytnophcdinideaaa

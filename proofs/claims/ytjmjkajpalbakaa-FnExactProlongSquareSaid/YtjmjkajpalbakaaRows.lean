/-
  No cell of these rows narrows 'for every input' (looked for: loops, veiled, ifaces, maps, wideKeys, modest, calm, conditions, laid).
  DERIVED. THE GIVEN ROWS OF THIS SEAT. 6 by the template 'for every input the law returns true; each argument reads behind the call as it read before'; 0 by the template 'total and deterministic' (their statements: YtjmjkajpalbakaaTotals.lean).
  GIVEN WITH THE SEED: the statements are not yours to turn. If you find one false, say at which input.
  Laid BY PROGRAM, IN A SANDBOX (cutbox-rows.mjs): the forced cells as the released guide's own fill.sh prints them over the translation 5d531d27bd2dba0f… (all of the seat's roots in one cut). By AI agents, Wed Nov 11 2026. No macro, syntax, notation, axiom, sorry.
-/
import Derived.Test.YtjmjkajpalbakaaChecked
import GoSem.Claim
import GoSem.ClaimJoined
import GoSem.ClaimMapViews
import Derived.JoinedTies
import Derived.KernelRfl
namespace Go.Proofs.Ytjmjkajpalbakaa
/- THE CELL 'sum', in the pinned program and in every row, IS THE sha256 OF THE DUMP (.gsa) THAT YtjmjkajpalbakaaProg.lean LOADS. Nothing in Lean hashes anything: it is a label: what it is worth is what the hold of that sum in a sandbox is worth. -/
noncomputable def Try.pinned : Pinned := { name := "ytjmjkajpalbakaa", sum := "5d531d27bd2dba0f44c7b6be1389cd48ce8137e4b7431bb89b0c804783f502ba", checked := Try.checked }
namespace Rows
def none {H : Type} : Left H := { results := [], args := [] }

/-- 'laws.FnExactTransversalsOf': WHATEVER THE INPUT: true; the input reads as it did. -/
def fnExactTransversalsOfSpec : ChangeSpec := { name := "fnExactTransversalsOf", fn := fun _ => fun
  | [d1, d2] => { results := [.lit (.bool true)], args := [d1, d2] }
  | _ => none }
def fnExactTransversalsOfRow : OpenClaim := { program := "ytjmjkajpalbakaa", sum := "5d531d27bd2dba0f44c7b6be1389cd48ce8137e4b7431bb89b0c804783f502ba", func := "loop.example/g01195/laws.FnExactTransversalsOf", spec := "fnExactTransversalsOf", unfollowed := true, recurses := true, apart := false }
def FnExactTransversalsOfSaid : Prop := fnExactTransversalsOfRow.holds Try.pinned (OpenSpec.ofChange fnExactTransversalsOfSpec)

/-- ITS FALSE NEIGHBOUR: 'it returns false'. Refute it at one input. -/
def fnExactTransversalsOfWrong : ChangeSpec := { name := "fnExactTransversalsOf", fn := fun _ => fun
  | [d1, d2] => { results := [.lit (.bool false)], args := [d1, d2] }
  | _ => none }
def FnExactTransversalsOfWrongFalsely : Prop := fnExactTransversalsOfRow.holds Try.pinned (OpenSpec.ofChange fnExactTransversalsOfWrong)

/-- 'laws.FnExactIsotopeOf': WHATEVER THE INPUT: true; the input reads as it did. -/
def fnExactIsotopeOfSpec : ChangeSpec := { name := "fnExactIsotopeOf", fn := fun _ => fun
  | [d1, d2] => { results := [.lit (.bool true)], args := [d1, d2] }
  | _ => none }
def fnExactIsotopeOfRow : OpenClaim := { program := "ytjmjkajpalbakaa", sum := "5d531d27bd2dba0f44c7b6be1389cd48ce8137e4b7431bb89b0c804783f502ba", func := "loop.example/g01195/laws.FnExactIsotopeOf", spec := "fnExactIsotopeOf", apart := false }
def FnExactIsotopeOfSaid : Prop := fnExactIsotopeOfRow.holds Try.pinned (OpenSpec.ofChange fnExactIsotopeOfSpec)

/-- ITS FALSE NEIGHBOUR: 'it returns false'. Refute it at one input. -/
def fnExactIsotopeOfWrong : ChangeSpec := { name := "fnExactIsotopeOf", fn := fun _ => fun
  | [d1, d2] => { results := [.lit (.bool false)], args := [d1, d2] }
  | _ => none }
def FnExactIsotopeOfWrongFalsely : Prop := fnExactIsotopeOfRow.holds Try.pinned (OpenSpec.ofChange fnExactIsotopeOfWrong)

/-- 'laws.FnExactAugmentationOf': WHATEVER THE INPUT: true; the input reads as it did. -/
def fnExactAugmentationOfSpec : ChangeSpec := { name := "fnExactAugmentationOf", fn := fun _ => fun
  | [d1, d2, d3] => { results := [.lit (.bool true)], args := [d1, d2, d3] }
  | _ => none }
def fnExactAugmentationOfRow : OpenClaim := { program := "ytjmjkajpalbakaa", sum := "5d531d27bd2dba0f44c7b6be1389cd48ce8137e4b7431bb89b0c804783f502ba", func := "loop.example/g01195/laws.FnExactAugmentationOf", spec := "fnExactAugmentationOf", apart := false }
def FnExactAugmentationOfSaid : Prop := fnExactAugmentationOfRow.holds Try.pinned (OpenSpec.ofChange fnExactAugmentationOfSpec)

/-- ITS FALSE NEIGHBOUR: 'it returns false'. Refute it at one input. -/
def fnExactAugmentationOfWrong : ChangeSpec := { name := "fnExactAugmentationOf", fn := fun _ => fun
  | [d1, d2, d3] => { results := [.lit (.bool false)], args := [d1, d2, d3] }
  | _ => none }
def FnExactAugmentationOfWrongFalsely : Prop := fnExactAugmentationOfRow.holds Try.pinned (OpenSpec.ofChange fnExactAugmentationOfWrong)

/-- 'laws.FnExactProlongSquare': WHATEVER THE INPUT: true; the input reads as it did. -/
def fnExactProlongSquareSpec : ChangeSpec := { name := "fnExactProlongSquare", fn := fun _ => fun
  | [d1, d2] => { results := [.lit (.bool true)], args := [d1, d2] }
  | _ => none }
def fnExactProlongSquareRow : OpenClaim := { program := "ytjmjkajpalbakaa", sum := "5d531d27bd2dba0f44c7b6be1389cd48ce8137e4b7431bb89b0c804783f502ba", func := "loop.example/g01195/laws.FnExactProlongSquare", spec := "fnExactProlongSquare", apart := false }
def FnExactProlongSquareSaid : Prop := fnExactProlongSquareRow.holds Try.pinned (OpenSpec.ofChange fnExactProlongSquareSpec)

/-- ITS FALSE NEIGHBOUR: 'it returns false'. Refute it at one input. -/
def fnExactProlongSquareWrong : ChangeSpec := { name := "fnExactProlongSquare", fn := fun _ => fun
  | [d1, d2] => { results := [.lit (.bool false)], args := [d1, d2] }
  | _ => none }
def FnExactProlongSquareWrongFalsely : Prop := fnExactProlongSquareRow.holds Try.pinned (OpenSpec.ofChange fnExactProlongSquareWrong)

/-- 'laws.FnExactSwitchIntercalate': WHATEVER THE INPUT: true; the input reads as it did. -/
def fnExactSwitchIntercalateSpec : ChangeSpec := { name := "fnExactSwitchIntercalate", fn := fun _ => fun
  | [d1, d2] => { results := [.lit (.bool true)], args := [d1, d2] }
  | _ => none }
def fnExactSwitchIntercalateRow : OpenClaim := { program := "ytjmjkajpalbakaa", sum := "5d531d27bd2dba0f44c7b6be1389cd48ce8137e4b7431bb89b0c804783f502ba", func := "loop.example/g01195/laws.FnExactSwitchIntercalate", spec := "fnExactSwitchIntercalate", apart := false }
def FnExactSwitchIntercalateSaid : Prop := fnExactSwitchIntercalateRow.holds Try.pinned (OpenSpec.ofChange fnExactSwitchIntercalateSpec)

/-- ITS FALSE NEIGHBOUR: 'it returns false'. Refute it at one input. -/
def fnExactSwitchIntercalateWrong : ChangeSpec := { name := "fnExactSwitchIntercalate", fn := fun _ => fun
  | [d1, d2] => { results := [.lit (.bool false)], args := [d1, d2] }
  | _ => none }
def FnExactSwitchIntercalateWrongFalsely : Prop := fnExactSwitchIntercalateRow.holds Try.pinned (OpenSpec.ofChange fnExactSwitchIntercalateWrong)

/-- 'laws.FnExactSquareOfLists': WHATEVER THE INPUT: true; the input reads as it did. -/
def fnExactSquareOfListsSpec : ChangeSpec := { name := "fnExactSquareOfLists", fn := fun _ => fun
  | [d] => { results := [.lit (.bool true)], args := [d] }
  | _ => none }
def fnExactSquareOfListsRow : OpenClaim := { program := "ytjmjkajpalbakaa", sum := "5d531d27bd2dba0f44c7b6be1389cd48ce8137e4b7431bb89b0c804783f502ba", func := "loop.example/g01195/laws.FnExactSquareOfLists", spec := "fnExactSquareOfLists", unfollowed := true, recurses := true, apart := false }
def FnExactSquareOfListsSaid : Prop := fnExactSquareOfListsRow.holds Try.pinned (OpenSpec.ofChange fnExactSquareOfListsSpec)

/-- ITS FALSE NEIGHBOUR: 'it returns false'. Refute it at one input. -/
def fnExactSquareOfListsWrong : ChangeSpec := { name := "fnExactSquareOfLists", fn := fun _ => fun
  | [d] => { results := [.lit (.bool false)], args := [d] }
  | _ => none }
def FnExactSquareOfListsWrongFalsely : Prop := fnExactSquareOfListsRow.holds Try.pinned (OpenSpec.ofChange fnExactSquareOfListsWrong)

/- THE SECOND FORM. 'bulk': how many values and letters a reading holds, each counted each time it is reached (what is shared counts as often as it is met; a slice's spare places count too). A statement '..UptoSaid' is the law's where the arguments, and the package variables that the reading takes, are together of bulk at most 1048576: NARROWER than '..Said'. Prove '..Said' where nothing that the law and all that it calls make is longer than what came in: it says more and counts as full. Else prove '..UptoSaid'. A law counts once. -/
mutual
def uptoBulk {H : Type} : DataW H → Nat
  | .lit (.string bytes) => bytes.length + 1
  | .lit _ => 1
  | .nil => 1
  | .ptr d => uptoBulk d + 1
  | .slice elems spare => uptoBulkAll elems + uptoBulkAll spare + 1
  | .agg parts => uptoBulkAll parts + 1
  | .iface _ d => uptoBulk d + 1
  | .map entries => uptoBulkEntries entries + 1
  | .held _ => 1
def uptoBulkAll {H : Type} : List (DataW H) → Nat
  | [] => 0
  | d :: r => uptoBulk d + uptoBulkAll r
def uptoBulkEntries {H : Type} : List (Lit × DataW H) → Nat
  | [] => 0
  | x :: r => uptoBulkEntry x + uptoBulkEntries r
def uptoBulkEntry {H : Type} : Lit × DataW H → Nat
  | (.string bytes, d) => bytes.length + uptoBulk d + 1
  | (_, d) => uptoBulk d + 1
 end
def uptoSmall : (H : Type) → List (DataW H) → Bool := fun _ ds => decide (uptoBulkAll ds ≤ 1048576)
def OpenSpec.upto (s : _root_.Go.ChangeSpec) : _root_.Go.OpenSpec := { _root_.Go.OpenSpec.ofChange s with cond := some uptoSmall }

/-- 'laws.FnExactTransversalsOf', WHERE WHAT IT READS IS OF BULK AT MOST 1048576: true; the input reads as it did. -/
def fnExactTransversalsOfUptoRow : OpenClaim := { program := "ytjmjkajpalbakaa", sum := "5d531d27bd2dba0f44c7b6be1389cd48ce8137e4b7431bb89b0c804783f502ba", func := "loop.example/g01195/laws.FnExactTransversalsOf", spec := "fnExactTransversalsOf", unfollowed := true, recurses := true, apart := false, narrowed := true }
def FnExactTransversalsOfUptoSaid : Prop := fnExactTransversalsOfUptoRow.holds Try.pinned (OpenSpec.upto fnExactTransversalsOfSpec)

/-- 'laws.FnExactIsotopeOf', WHERE WHAT IT READS IS OF BULK AT MOST 1048576: true; the input reads as it did. -/
def fnExactIsotopeOfUptoRow : OpenClaim := { program := "ytjmjkajpalbakaa", sum := "5d531d27bd2dba0f44c7b6be1389cd48ce8137e4b7431bb89b0c804783f502ba", func := "loop.example/g01195/laws.FnExactIsotopeOf", spec := "fnExactIsotopeOf", apart := false, narrowed := true }
def FnExactIsotopeOfUptoSaid : Prop := fnExactIsotopeOfUptoRow.holds Try.pinned (OpenSpec.upto fnExactIsotopeOfSpec)

/-- 'laws.FnExactAugmentationOf', WHERE WHAT IT READS IS OF BULK AT MOST 1048576: true; the input reads as it did. -/
def fnExactAugmentationOfUptoRow : OpenClaim := { program := "ytjmjkajpalbakaa", sum := "5d531d27bd2dba0f44c7b6be1389cd48ce8137e4b7431bb89b0c804783f502ba", func := "loop.example/g01195/laws.FnExactAugmentationOf", spec := "fnExactAugmentationOf", apart := false, narrowed := true }
def FnExactAugmentationOfUptoSaid : Prop := fnExactAugmentationOfUptoRow.holds Try.pinned (OpenSpec.upto fnExactAugmentationOfSpec)

/-- 'laws.FnExactProlongSquare', WHERE WHAT IT READS IS OF BULK AT MOST 1048576: true; the input reads as it did. -/
def fnExactProlongSquareUptoRow : OpenClaim := { program := "ytjmjkajpalbakaa", sum := "5d531d27bd2dba0f44c7b6be1389cd48ce8137e4b7431bb89b0c804783f502ba", func := "loop.example/g01195/laws.FnExactProlongSquare", spec := "fnExactProlongSquare", apart := false, narrowed := true }
def FnExactProlongSquareUptoSaid : Prop := fnExactProlongSquareUptoRow.holds Try.pinned (OpenSpec.upto fnExactProlongSquareSpec)

/-- 'laws.FnExactSwitchIntercalate', WHERE WHAT IT READS IS OF BULK AT MOST 1048576: true; the input reads as it did. -/
def fnExactSwitchIntercalateUptoRow : OpenClaim := { program := "ytjmjkajpalbakaa", sum := "5d531d27bd2dba0f44c7b6be1389cd48ce8137e4b7431bb89b0c804783f502ba", func := "loop.example/g01195/laws.FnExactSwitchIntercalate", spec := "fnExactSwitchIntercalate", apart := false, narrowed := true }
def FnExactSwitchIntercalateUptoSaid : Prop := fnExactSwitchIntercalateUptoRow.holds Try.pinned (OpenSpec.upto fnExactSwitchIntercalateSpec)

/-- 'laws.FnExactSquareOfLists', WHERE WHAT IT READS IS OF BULK AT MOST 1048576: true; the input reads as it did. -/
def fnExactSquareOfListsUptoRow : OpenClaim := { program := "ytjmjkajpalbakaa", sum := "5d531d27bd2dba0f44c7b6be1389cd48ce8137e4b7431bb89b0c804783f502ba", func := "loop.example/g01195/laws.FnExactSquareOfLists", spec := "fnExactSquareOfLists", unfollowed := true, recurses := true, apart := false, narrowed := true }
def FnExactSquareOfListsUptoSaid : Prop := fnExactSquareOfListsUptoRow.holds Try.pinned (OpenSpec.upto fnExactSquareOfListsSpec)

end Rows
end Go.Proofs.Ytjmjkajpalbakaa

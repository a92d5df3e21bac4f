/-
Contracts of functions of the given program, by the abstract walk.
-/
import Derived.Test.YtoccbgffekhcaaaAbsY
import Derived.Test.YtoccbgffekhcaaaDc
import Derived.Test.YtoccbgffekhcaaaDe
namespace Go.Proofs.Ytoccbgffekhcaaa
open Go Go.Abs
set_option linter.unusedVariables false
set_option linter.unusedSectionVars false
set_option linter.unusedSimpArgs false
set_option maxRecDepth 100000
def resMap (c : Int) (m : List Int) : AV := if c = 0 then .tup [.agg (plS m), .i .i64 0] else .tup [.agg (plS (List.replicate 10 0)), .i .i64 c]
theorem resMap_form (c : Int) {m : List Int} (hm : m.length = 10) : ∃ s e, s.length = 10 ∧ resMap c m = .tup [.agg (plS s), .i .i64 e] := by
  unfold resMap
  split
  · exact ⟨_, _, hm, rfl⟩
  · exact ⟨_, _, by simp, rfl⟩
theorem resMap0 {c : Int} {m : List Int} (h : c = 0) : resMap c m = .tup [.agg (plS m), .i .i64 0] := if_pos h
theorem resMapN {c : Int} {m : List Int} (h : ¬c = 0) : resMap c m = .tup [.agg (plS (List.replicate 10 0)), .i .i64 c] := if_neg h
theorem lcode_zero {n : Int} {t xs : List Int} {k : Nat} (h : lcode n t xs k = 0) : SqP n t ∧ HasP n xs k ∧ UnitP n.toNat t 0 := by
  unfold lcode at h
  split at h
  · rename_i h1
    split at h
    · rename_i h2
      split at h
      · rename_i h3; exact ⟨sqB_iff.1 h1, hasB_iff.1 h2, unitB_iff.1 h3⟩
      · omega
    · omega
  · omega
theorem bytes_one {x : Nat} (h : x < 256) : Bytes 1 [(x : Int)] := ⟨rfl, fun i => by
  match i with
  | 0 => show 0 ≤ (x : Int) ∧ (x : Int) < 256; omega
  | _ + 1 => exact ⟨Int.le_refl 0, by show (0 : Int) < 256; omega⟩⟩
theorem bytes_cons {x k : Nat} {l : List Int} (h : x < 256) (hl : Bytes k l) : Bytes (k + 1) ((x : Int) :: l) := ⟨by simp [hl.len], fun i => by
  match i with
  | 0 => show 0 ≤ (x : Int) ∧ (x : Int) < 256; omega
  | j + 1 => exact hl.rng j⟩
theorem turnMap_form (n : Int) (t : List Int) (x : Nat) (ht : Bytes 100 t) (hx : x < 256) : ∃ s e, s.length = 10 ∧ resMap (lcode n t [(x : Int)] 1) (turnL n.toNat t x) = .tup [.agg (plS s), .i .i64 e] := resMap_form _ mapL_len
theorem leftMap_form (n : Int) (t : List Int) (x y : Nat) (ht : Bytes 100 t) (hx : x < 256) (hy : y < 256) : ∃ s e, s.length = 10 ∧ resMap (lcode n t [(x : Int), (y : Int)] 2) (leftL n.toNat t x y) = .tup [.agg (plS s), .i .i64 e] := resMap_form _ mapL_len
theorem rightMap_form (n : Int) (t : List Int) (x y : Nat) (ht : Bytes 100 t) (hx : x < 256) (hy : y < 256) : ∃ s e, s.length = 10 ∧ resMap (lcode n t [(x : Int), (y : Int)] 2) (rightL n.toNat t x y) = .tup [.agg (plS s), .i .i64 e] := resMap_form _ mapL_len
end Go.Proofs.Ytoccbgffekhcaaa

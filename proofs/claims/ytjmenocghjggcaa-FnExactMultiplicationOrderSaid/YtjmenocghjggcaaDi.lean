/-
Contracts of functions of the given program, by the abstract walk.
-/
import Derived.Test.YtjmenocghjggcaaAbsY
import Derived.Test.YtjmenocghjggcaaDg
import Derived.Test.YtjmenocghjggcaaDc
import Derived.Test.YtjmenocghjggcaaCc
namespace Go.Proofs.Ytjmenocghjggcaa
open Go Go.Abs
set_option linter.unusedVariables false
set_option linter.unusedSectionVars false
set_option linter.unusedSimpArgs false
set_option maxRecDepth 100000
def resSq (c : Int) (n : Int) (m : List Int) : AV := if c = 0 then .tup [.agg (sqS n m), .i .i64 0] else .tup [.agg (sqS 0 (List.replicate 100 0)), .i .i64 c]
theorem resSq_form (c n : Int) {m : List Int} (hm : m.length = 100) : ∃ k s e, s.length = 100 ∧ resSq c n m = .tup [.agg (sqS k s), .i .i64 e] := by
  unfold resSq
  split
  · exact ⟨_, _, _, hm, rfl⟩
  · exact ⟨_, _, _, by simp, rfl⟩
theorem resSq0 {c n : Int} {m : List Int} (h : c = 0) : resSq c n m = .tup [.agg (sqS n m), .i .i64 0] := if_pos h
theorem resSqN {c n : Int} {m : List Int} (h : ¬c = 0) : resSq c n m = .tup [.agg (sqS 0 (List.replicate 100 0)), .i .i64 c] := if_neg h
theorem ccode_zero {n : Int} {t xs : List Int} {k : Nat} (h : ccode n t xs k = 0) : SqP n t ∧ HasP n xs k := by
  unfold ccode at h
  split at h
  · rename_i h1
    split at h
    · rename_i h2; exact ⟨sqB_iff.1 h1, hasB_iff.1 h2⟩
    · omega
  · omega
/-- The exchange of 0 and e. -/
def swL (N e : Nat) : List Int := ((idL N).set 0 (e : Int)).set (0 + e * 1) 0
theorem swL_get {N e j : Nat} (hN : N ≤ 10) (he : e < N) (hj : j < 10) : pl (swL N e) j = if j = e then 0 else if j = 0 then e else if j < N then j else 0 := by
  have hl : (idL N).length = 10 := mapL_len
  unfold swL Abs.pl
  rw [getD_set_int (by rw [List.length_set, hl]; omega), getD_set_int (by rw [hl]; omega)]
  by_cases h1 : j = e
  · rw [if_pos (by omega), if_pos h1]; rfl
  · rw [if_neg (by omega), if_neg h1]
    by_cases h2 : j = 0
    · rw [if_pos (by omega), if_pos h2]; rfl
    · rw [if_neg (by omega), if_neg h2]
      show pl (idL N) j = _
      by_cases h3 : j < N
      · rw [if_pos h3]; exact pl_mapL hN h3
      · rw [if_neg h3]; exact pl_mapL0 hN h3
theorem swL_bytes {N e : Nat} (hN : N ≤ 10) (he : e < N) : Bytes 10 (swL N e) := ⟨by simp [swL, idL, mapL_len], fun i => by
  have hl : (idL N).length = 10 := mapL_len
  unfold swL
  rw [getD_set_int (by rw [List.length_set, hl]; omega), getD_set_int (by rw [hl]; omega)]
  have := (idL_bytes hN).rng i
  split
  · omega
  · split <;> omega⟩
theorem swL_permF {N e : Nat} (hN : N ≤ 10) (he : e < N) : PermF N (pl (swL N e)) := fun i hi => by
  unfold permAt
  rw [swL_get hN he hi]
  split
  · rename_i h
    refine ⟨by split <;> (try split) <;> omega, fun j hj => ?_⟩
    rw [swL_get hN he (by omega)]
    intro e2
    split at e2 <;> split at e2 <;> (try split at e2) <;> (try split at e2) <;> (try split at e2) <;> omega
  · rename_i h
    rw [if_neg (by omega)]
    first | rfl | rw [if_neg (by omega)]
theorem PermP_of {N : Nat} {p : List Int} (h1 : 1 ≤ N) (h2 : N ≤ 10) (h : PermF N (pl p)) : PermP N p := ⟨by omega, by omega, by rw [show (N : Int).toNat = N by omega]; exact h⟩
/-- A map that permutes what is below N is a permutation. -/
theorem permF_mapL {N : Nat} {g : Nat → Nat} (hN : N ≤ 10) (hb : ∀ i, i < N → g i < N) (hi : ∀ i j, i < N → j < N → g i = g j → i = j) : PermF N (pl (mapL g N)) := fun i h10 => by
  unfold permAt
  split
  · rename_i h
    rw [pl_mapL hN h]
    refine ⟨hb i h, fun j hj => ?_⟩
    rw [pl_mapL hN (by omega)]
    intro e
    exact absurd (hi j i (by omega) h e) (by omega)
  · rename_i h; exact pl_mapL0 hN h
theorem permF_then {N : Nat} {f g : Nat → Nat} (hf : PermF N f) (hg : PermF N g) (hN : N ≤ 10) : PermF N (pl (mapL (fun i => g (f i)) N)) :=
  permF_mapL hN (fun i hi => hg.lt hN (hf.lt hN hi)) fun i j hi hj e => hf.inj hN hi hj (hg.inj hN (hf.lt hN hi) (hf.lt hN hj) e)

def toA (N : Nat) (t : List Int) (a b : Nat) : List Int := mapL (fun i => pl (swL N (cl t a b)) (pl (colL N t b) i)) N
def toB (N : Nat) (t : List Int) (a b : Nat) : List Int := mapL (fun i => pl (swL N (cl t a b)) (pl (rowL t a) i)) N
theorem colL_permF {N : Nat} {t : List Int} (hs : SqP N t) {b : Nat} (hb : b < N) : PermF N (pl (colL N t b)) :=
  permF_mapL hs.le (fun i hi => hs.cl_lt hi hb) fun i j hi hj e => (hs.colP hb).inj hs.le hi hj e
theorem rowL_permF {N : Nat} {t : List Int} (hs : SqP N t) {a : Nat} (ha : a < N) : PermF N (pl (rowL t a)) := (PermF_congr fun i hi => pl_rowL hi).2 (hs.rowP ha)
theorem toA_perm {N : Nat} {t : List Int} (hs : SqP N t) {a b : Nat} (ha : a < N) (hb : b < N) : PermP N (toA N t a b) :=
  PermP_of hs.pos hs.le (permF_then (colL_permF hs hb) (swL_permF hs.le (hs.cl_lt ha hb)) hs.le)
theorem toB_perm {N : Nat} {t : List Int} (hs : SqP N t) {a b : Nat} (ha : a < N) (hb : b < N) : PermP N (toB N t a b) :=
  PermP_of hs.pos hs.le (permF_then (rowL_permF hs ha) (swL_permF hs.le (hs.cl_lt ha hb)) hs.le)
theorem toA_bytes {N : Nat} {t : List Int} (hs : SqP N t) {a b : Nat} (ha : a < N) (hb : b < N) : Bytes 10 (toA N t a b) := mapL_bytes hs.le fun x _ => (swL_bytes hs.le (hs.cl_lt ha hb)).place_lt _
theorem toB_bytes {N : Nat} {t : List Int} (hs : SqP N t) {a b : Nat} (ha : a < N) (hb : b < N) : Bytes 10 (toB N t a b) := mapL_bytes hs.le fun x _ => (swL_bytes hs.le (hs.cl_lt ha hb)).place_lt _

noncomputable def loopAtR (n : Int) (t : List Int) (a b : Nat) : AV := resSq (ccode n t [(a : Int), (b : Int)] 2) n (isoT n.toNat t (toA n.toNat t a b) (toB n.toNat t a b) (swL n.toNat (cl t a b)) n.toNat)
theorem loopAt_form (n : Int) (t : List Int) (a b : Nat) (ht : Bytes 100 t) (ha : a < 256) (hb : b < 256) : ∃ k s e, s.length = 100 ∧ loopAtR n t a b = .tup [.agg (sqS k s), .i .i64 e] := resSq_form _ _ (isoT_len _)
theorem bytes_two {x y : Nat} (h : x < 256) (h' : y < 256) : Bytes 2 [(x : Int), (y : Int)] := ⟨rfl, fun i => by
  match i with
  | 0 => show 0 ≤ (x : Int) ∧ (x : Int) < 256; omega
  | 1 => show 0 ≤ (y : Int) ∧ (y : Int) < 256; omega
  | _ + 2 => exact ⟨Int.le_refl 0, by show (0 : Int) < 256; omega⟩⟩
end Go.Proofs.Ytjmenocghjggcaa

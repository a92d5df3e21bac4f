/-
Contracts of functions of the given program, by the abstract walk.
-/
import Derived.Test.YtjmenocghjggcaaAbsY
import Derived.Test.YtjmenocghjggcaaDh
import Derived.Test.YtjmenocghjggcaaDi
namespace Go.Proofs.Ytjmenocghjggcaa
open Go Go.Abs
set_option linter.unusedVariables false
set_option linter.unusedSectionVars false
set_option linter.unusedSimpArgs false
set_option maxRecDepth 100000
theorem SqP_mkT {N : Nat} {g : Nat → Nat → Nat} (h1 : 1 ≤ N) (hN : N ≤ 10) (hb : ∀ x y, x < N → y < N → g x y < N)
    (hr : ∀ x y z, x < N → y < N → z < N → g x y = g x z → y = z) (hc : ∀ x y z, x < N → y < N → z < N → g x z = g y z → x = y) : SqP N (mkT g N N) := by
  refine SqP_iff.2 ⟨by omega, by omega, ?_, ?_⟩
  · rw [show (N : Int).toNat = N by omega]
    intro x hx
    refine ⟨fun y hy => ?_, fun y hy => ?_⟩
    · unfold permAt
      split
      · rename_i h
        rw [cl_mkT hN hx h]
        refine ⟨hb x y hx h, fun j hj => ?_⟩
        rw [cl_mkT hN hx (by omega)]
        intro e; exact absurd (hr x j y hx (by omega) h e) (by omega)
      · exact cl_mkT0 hN hy (by omega)
    · unfold permAt
      split
      · rename_i h
        show cl (mkT g N N) y x < N ∧ ∀ j, j < y → cl (mkT g N N) j x ≠ cl (mkT g N N) y x
        rw [cl_mkT hN h hx]
        refine ⟨hb y x h hx, fun j hj => ?_⟩
        rw [cl_mkT hN (by omega) hx]
        intro e; exact absurd (hc j y x (by omega) h hx e) (by omega)
      · exact cl_mkT0 hN (by omega) (by omega)
  · rw [show (N : Int).toNat = N by omega]
    intro x hx hn y hy
    exact ⟨cl_mkT0 hN hy (by omega), cl_mkT0 hN hx (by omega)⟩
theorem PermF.fnd_at {N : Nat} {f : Nat → Nat} (h : PermF N f) (hN : N ≤ 10) {z : Nat} (hz : z < N) : f (fnd f z N) = z := Abs.fnd_at (PermF.fnd_lt h hN hz)
def isoG (N : Nat) (t : List Int) (a b : Nat) (x y : Nat) : Nat := cl t (fnd (fun i => cl t i b) x N) (fnd (cl t a) y N)
theorem isoG_lt {N : Nat} {t : List Int} (hs : SqP N t) {a b x y : Nat} (ha : a < N) (hb : b < N) (hx : x < N) (hy : y < N) : isoG N t a b x y < N :=
  hs.cl_lt (PermF.fnd_lt (hs.colP hb) hs.le hx) (PermF.fnd_lt (hs.rowP ha) hs.le hy)
theorem isoG_sq {N : Nat} {t : List Int} (hs : SqP N t) {a b : Nat} (ha : a < N) (hb : b < N) : SqP N (mkT (isoG N t a b) N N) := by
  have hN := hs.le
  refine SqP_mkT hs.pos hN (fun x y hx hy => isoG_lt hs ha hb hx hy) (fun x y z hx hy hz e => ?_) (fun x y z hx hy hz e => ?_)
  · have h1 := PermF.inj (hs.rowP (PermF.fnd_lt (hs.colP hb) hN hx)) hN (PermF.fnd_lt (hs.rowP ha) hN hy) (PermF.fnd_lt (hs.rowP ha) hN hz) e
    rw [← PermF.fnd_at (hs.rowP ha) hN hy, h1, PermF.fnd_at (hs.rowP ha) hN hz]
  · have h1 := PermF.inj (hs.colP (PermF.fnd_lt (hs.rowP ha) hN hz)) hN (PermF.fnd_lt (hs.colP hb) hN hx) (PermF.fnd_lt (hs.colP hb) hN hy) e
    have h2 := PermF.fnd_at (hs.colP hb) hN hx
    rw [h1, PermF.fnd_at (hs.colP hb) hN hy] at h2
    exact h2.symm
theorem isoG_bytes {N : Nat} {t : List Int} (hs : SqP N t) {a b : Nat} (ha : a < N) (hb : b < N) : Bytes 100 (mkT (isoG N t a b) N N) :=
  mkT_bytes hs.le fun x y hx hy => by have := isoG_lt hs ha hb hx hy; have := hs.le; omega

noncomputable def isoForR (N : Nat) (t : List Int) (a b : Nat) : List Int := isoT N (mkT (isoG N t a b) N N) (swL N (cl t a b)) (swL N (cl t a b)) (swL N (cl t a b)) N
theorem swL_perm {N e : Nat} (h1 : 1 ≤ N) (hN : N ≤ 10) (he : e < N) : PermP N (swL N e) := PermP_of h1 hN (swL_permF hN he)
theorem swL_other {N e : Nat} (hN : N ≤ 10) (he : e < N) : ((idL N).set (0 + e * 1) 0).set 0 (e : Int) = swL N e := by
  have hl : (idL N).length = 10 := mapL_len
  refine ext_getD (by simp [swL]) fun i hi => ?_
  unfold swL
  rw [getD_set_int (by rw [List.length_set, hl]; omega), getD_set_int (by rw [hl]; omega), getD_set_int (by rw [List.length_set, hl]; omega), getD_set_int (by rw [hl]; omega)]
  by_cases h1 : 0 = i
  · rw [if_pos h1, if_pos h1]
    split
    · omega
    · rfl
  · rw [if_neg h1, if_neg h1]
end Go.Proofs.Ytjmenocghjggcaa

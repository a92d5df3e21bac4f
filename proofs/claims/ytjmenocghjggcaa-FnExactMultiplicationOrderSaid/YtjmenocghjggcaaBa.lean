/-
Contracts of functions of the given program, by the abstract walk.
-/
import Derived.Test.YtjmenocghjggcaaAbsY
import Derived.Test.YtjmenocghjggcaaDg
namespace Go.Proofs.Ytjmenocghjggcaa
open Go Go.Abs
set_option linter.unusedVariables false
set_option linter.unusedSectionVars false
set_option linter.unusedSimpArgs false
set_option maxRecDepth 100000
/-! groups of permutations, plain -/
def th (N : Nat) (p q : List Int) : List Int := mapL (fun i => pl q (pl p i)) N
def bk (N : Nat) (p : List Int) : List Int := bkL (pl p) N
structure Vp (N : Nat) (p : List Int) : Prop where
  by_ : Bytes 10 p
  pf : PermF N (pl p)
section
variable {N : Nat} (hN : N ≤ 10)
include hN
theorem Vp.lt {p : List Int} (h : Vp N p) {i : Nat} (hi : i < N) : pl p i < N := h.pf.lt hN hi
theorem Vp.zero {p : List Int} (h : Vp N p) {i : Nat} (hi : ¬ i < N) : pl p i = 0 := by
  by_cases h1 : i < 10
  · exact h.pf.zero h1 hi
  · unfold Abs.pl; rw [List.getD_eq_getElem?_getD, List.getElem?_eq_none (by rw [h.by_.len]; omega)]; rfl
theorem Vp.ext {p q : List Int} (h : Vp N p) (h' : Vp N q) (e : ∀ i, i < N → pl p i = pl q i) : p = q :=
  places_ext h.by_ h'.by_ fun a _ => by
    by_cases ha : a < N
    · exact e a ha
    · rw [h.zero hN ha, h'.zero hN ha]
theorem pl_th {p q : List Int} {i : Nat} (hi : i < N) : pl (th N p q) i = pl q (pl p i) := pl_mapL hN hi
theorem vp_mapL {f : Nat → Nat} (hl : ∀ i, i < N → f i < N) (hi : ∀ i j, i < N → j < N → f i = f j → i = j) : Vp N (mapL f N) :=
  ⟨mapL_bytes hN fun x hx => by have := hl x hx; omega, fun i h10 => by
    unfold permAt
    split
    · rename_i h
      rw [pl_mapL hN h]
      refine ⟨hl i h, fun j hj e => ?_⟩
      rw [pl_mapL hN (by omega)] at e
      have := hi j i (by omega) h e; omega
    · rename_i h; exact pl_mapL0 hN h⟩
theorem Vp.inj {p : List Int} (h : Vp N p) {i j : Nat} (hi : i < N) (hj : j < N) (e : pl p i = pl p j) : i = j := h.pf.inj hN hi hj e
theorem Vp.th {p q : List Int} (h : Vp N p) (h' : Vp N q) : Vp N (th N p q) :=
  vp_mapL hN (fun i hi => h'.lt hN (h.lt hN hi)) fun i j hi hj e => h.inj hN hi hj (h'.inj hN (h.lt hN hi) (h.lt hN hj) e)
theorem vp_id : Vp N (idL N) := vp_mapL hN (fun i hi => hi) fun i j _ _ e => e
theorem pl_id {i : Nat} (hi : i < N) : pl (idL N) i = i := pl_mapL hN hi
theorem pl_bk {p : List Int} (h : Vp N p) {i : Nat} (hi : i < N) : pl (bk N p) (pl p i) = i := by
  unfold bk; rw [h.pf.back hN (h.lt hN hi), h.pf.fnd_eq hN hi]
theorem pl_bk' {p : List Int} (h : Vp N p) {i : Nat} (hi : i < N) : pl (bk N p) i < N ∧ pl p (pl (bk N p) i) = i := by
  obtain ⟨j, hj, e⟩ := h.pf.surj hN hi
  rw [← e, pl_bk hN h hj]; exact ⟨hj, rfl⟩
theorem Vp.bk {p : List Int} (h : Vp N p) : Vp N (bk N p) := by
  have hb : ∀ i, i < N → pl p i < 10 := fun i hi => by have := h.lt hN hi; omega
  refine ⟨bkL_bytes hN hb, fun i h10 => ?_⟩
  unfold permAt
  split
  · rename_i hi
    refine ⟨(pl_bk' hN h hi).1, fun j hj e => ?_⟩
    have h1 := (pl_bk' hN h hi).2
    have h2 := (pl_bk' hN h (show j < N by omega)).2
    rw [e] at h2; omega
  · rename_i hi
    have e := bkL_none (f := pl p) (z := i) hb fun j hj e => by have := h.lt hN hj; omega
    show ((bkL (pl p) N).getD i 0).toNat = 0
    rw [e]; rfl
theorem th_assoc {p q r : List Int} (hp : Vp N p) (hq : Vp N q) (hr : Vp N r) : th N (th N p q) r = th N p (th N q r) :=
  Vp.ext hN ((hp.th hN hq).th hN hr) (hp.th hN (hq.th hN hr)) fun i hi => by
    rw [pl_th hN hi, pl_th hN hi, pl_th hN hi, pl_th hN (hp.lt hN hi)]
theorem th_id {p : List Int} (hp : Vp N p) : th N p (idL N) = p :=
  Vp.ext hN (hp.th hN (vp_id hN)) hp fun i hi => by rw [pl_th hN hi, pl_id hN (hp.lt hN hi)]
theorem id_th {p : List Int} (hp : Vp N p) : th N (idL N) p = p :=
  Vp.ext hN ((vp_id hN).th hN hp) hp fun i hi => by rw [pl_th hN hi, pl_id hN hi]
theorem th_bk {p : List Int} (hp : Vp N p) : th N p (bk N p) = idL N :=
  Vp.ext hN (hp.th hN (hp.bk hN)) (vp_id hN) fun i hi => by rw [pl_th hN hi, pl_bk hN hp hi, pl_id hN hi]
theorem bk_th {p : List Int} (hp : Vp N p) : th N (bk N p) p = idL N :=
  Vp.ext hN ((hp.bk hN).th hN hp) (vp_id hN) fun i hi => by rw [pl_th hN hi, (pl_bk' hN hp hi).2, pl_id hN hi]
theorem bk_id : bk N (idL N) = idL N := by
  have := th_bk hN (vp_id hN)
  rwa [id_th hN ((vp_id hN).bk hN)] at this
/-- p = q then the way back of r: q = p then r -/
theorem th_back {p r : List Int} (hp : Vp N p) (hr : Vp N r) : th N (th N p (bk N r)) r = p := by
  rw [th_assoc hN hp (hr.bk hN) hr, bk_th hN hr, th_id hN hp]
end
/-- what is made of a set by products -/
inductive Gen (N : Nat) (S : List Int → Prop) : List Int → Prop
  | one : Gen N S (idL N)
  | step {p s : List Int} : Gen N S p → S s → Gen N S (th N p s)
def itF (f : Nat → Nat) : Nat → Nat → Nat
  | 0, i => i
  | m + 1, i => f (itF f m i)
theorem itF_add {f : Nat → Nat} {a i : Nat} : ∀ {b}, itF f (a + b) i = itF f b (itF f a i)
  | 0 => rfl
  | b + 1 => by show f (itF f (a + b) i) = _; rw [itF_add]; rfl
theorem itF_mul {f : Nat → Nat} {c i : Nat} (h : itF f c i = i) : ∀ {k}, itF f (c * k) i = i
  | 0 => rfl
  | k + 1 => by rw [Nat.mul_succ, itF_add, itF_mul h, h]
def facN : Nat → Nat
  | 0 => 1
  | k + 1 => (k + 1) * facN k
theorem facN_pos : ∀ {k}, 1 ≤ facN k
  | 0 => Nat.le_refl _
  | k + 1 => Nat.le_trans (by decide) (Nat.mul_le_mul (show 1 ≤ k + 1 by omega) facN_pos)
theorem facN_dvd {c : Nat} (h0 : 1 ≤ c) : ∀ {k}, c ≤ k → ∃ q, facN k = c * q
  | 0, h => absurd h (by omega)
  | k + 1, h => by
    by_cases e : c = k + 1
    · exact ⟨facN k, by rw [e]; rfl⟩
    · obtain ⟨q, hq⟩ := facN_dvd h0 (show c ≤ k by omega)
      exact ⟨(k + 1) * q, by rw [facN, hq, Nat.mul_left_comm]⟩
def pwr (N : Nat) (p : List Int) : Nat → List Int
  | 0 => idL N
  | m + 1 => th N (pwr N p m) p

end Go.Proofs.Ytjmenocghjggcaa

/-
Contracts of functions of the given program, by the abstract walk.
-/
import Derived.Test.YtjmenocghjggcaaAbsY
import Derived.Test.YtjmenocghjggcaaBa
import Derived.Test.YtjmenocghjggcaaNb
namespace Go.Proofs.Ytjmenocghjggcaa
open Go Go.Abs
set_option linter.unusedVariables false
set_option linter.unusedSectionVars false
set_option linter.unusedSimpArgs false
set_option maxRecDepth 100000
/-! groups of permutations: powers, sifting -/
section
variable {N : Nat} (hN : N ≤ 10)
include hN
theorem Gen.vp {S : List Int → Prop} (hS : ∀ s, S s → Vp N s) {p : List Int} (h : Gen N S p) : Vp N p := by
  induction h with
  | one => exact vp_id hN
  | step _ hs ih => exact ih.th hN (hS _ hs)
theorem Gen.mul {S : List Int → Prop} (hS : ∀ s, S s → Vp N s) {p q : List Int} (hp : Gen N S p) (hq : Gen N S q) : Gen N S (th N p q) := by
  induction hq with
  | one => rw [th_id hN (hp.vp hN hS)]; exact hp
  | step hq hs ih => rw [← th_assoc hN (hp.vp hN hS) (hq.vp hN hS) (hS _ hs)]; exact ih.step hs
theorem Gen.of {S : List Int → Prop} (hS : ∀ s, S s → Vp N s) {s : List Int} (h : S s) : Gen N S s := by
  have := Gen.step (N := N) (S := S) .one h
  rwa [id_th hN (hS _ h)] at this
theorem Gen.sub {S S' : List Int → Prop} (hS' : ∀ s, S' s → Vp N s) (h : ∀ s, S s → Gen N S' s) {p : List Int} (hp : Gen N S p) : Gen N S' p := by
  induction hp with
  | one => exact .one
  | step _ hs ih => exact ih.mul hN hS' (h _ hs)
theorem pwr_vp {p : List Int} (hp : Vp N p) : ∀ {m}, Vp N (pwr N p m)
  | 0 => vp_id hN
  | m + 1 => (pwr_vp hp).th hN hp
theorem pl_pwr {p : List Int} (hp : Vp N p) {i : Nat} (hi : i < N) : ∀ {m}, pl (pwr N p m) i = itF (pl p) m i
  | 0 => pl_id hN hi
  | m + 1 => by rw [pwr, pl_th hN hi, pl_pwr hp hi]; rfl
theorem itF_lt {p : List Int} (hp : Vp N p) {i : Nat} (hi : i < N) : ∀ {m}, itF (pl p) m i < N
  | 0 => hi
  | m + 1 => hp.lt hN (itF_lt hp hi)
theorem itF_inj {p : List Int} (hp : Vp N p) {i j : Nat} (hi : i < N) (hj : j < N) : ∀ {m}, itF (pl p) m i = itF (pl p) m j → i = j
  | 0, e => e
  | m + 1, e => itF_inj hp hi hj (hp.inj hN (itF_lt hN hp hi) (itF_lt hN hp hj) e)
theorem itF_cycle {p : List Int} (hp : Vp N p) {i : Nat} (hi : i < N) : ∃ c, 1 ≤ c ∧ c ≤ N ∧ itF (pl p) c i = i := by
  apply Classical.byContradiction
  intro hno
  have hnd : ((List.range (N + 1)).map fun a => itF (pl p) a i).Nodup := by
    unfold List.Nodup
    rw [List.pairwise_map]
    refine List.Pairwise.imp_of_mem ?_ List.pairwise_lt_range
    intro a b ha hb hab e
    have hb' := List.mem_range.1 hb
    refine hno ⟨b - a, by omega, by omega, ?_⟩
    have e2 : itF (pl p) b i = itF (pl p) a (itF (pl p) (b - a) i) := by rw [← itF_add]; congr 1; omega
    rw [e2] at e
    exact (itF_inj hN hp hi (itF_lt hN hp hi) e).symm
  have := len_le_of_sub (l2 := List.range N) hnd (fun x hx => by
    obtain ⟨a, _, rfl⟩ := List.mem_map.1 hx
    exact List.mem_range.2 (itF_lt hN hp hi))
  simp at this; omega
theorem pwr_order {p : List Int} (hp : Vp N p) : ∃ m, pwr N p (m + 1) = idL N := by
  have h1 := facN_pos (k := N)
  refine ⟨facN N - 1, Vp.ext hN (pwr_vp hN hp) (vp_id hN) fun i hi => ?_⟩
  rw [pl_pwr hN hp hi, pl_id hN hi, show facN N - 1 + 1 = facN N by omega]
  obtain ⟨c, hc1, hc2, hc⟩ := itF_cycle hN hp hi
  obtain ⟨q, hq⟩ := facN_dvd hc1 hc2
  rw [hq]; exact itF_mul hc
theorem bk_pwr {p : List Int} (hp : Vp N p) : ∃ m, bk N p = pwr N p m := by
  obtain ⟨m, hm⟩ := pwr_order hN hp
  refine ⟨m, ?_⟩
  have h1 : th N (th N (pwr N p m) p) (bk N p) = bk N p := by
    show th N (pwr N p (m + 1)) (bk N p) = _
    rw [hm, id_th hN (hp.bk hN)]
  rw [th_assoc hN (pwr_vp hN hp) hp (hp.bk hN), th_bk hN hp, th_id hN (pwr_vp hN hp)] at h1
  exact h1.symm
theorem Gen.pwr {S : List Int → Prop} (hS : ∀ s, S s → Vp N s) {p : List Int} (hp : Gen N S p) : ∀ {m}, Gen N S (pwr N p m)
  | 0 => .one
  | m + 1 => (Gen.pwr hS hp).mul hN hS hp
theorem Gen.bk {S : List Int → Prop} (hS : ∀ s, S s → Vp N s) {p : List Int} (hp : Gen N S p) : Gen N S (bk N p) := by
  obtain ⟨m, hm⟩ := bk_pwr hN (hp.vp hN hS)
  rw [hm]; exact hp.pwr hN hS
end
abbrev HasT := Nat → Nat → Bool
abbrev ByT := Nat → Nat → List Int
/-- whether a permutation sifts through the last d levels -/
def sft (N : Nat) (has : HasT) (by_ : ByT) : Nat → List Int → Bool
  | 0, _ => true
  | d + 1, p => has (N - (d + 1)) (pl p (N - (d + 1))) && sft N has by_ d (th N p (bk N (by_ (N - (d + 1)) (pl p (N - (d + 1))))))
structure Chain (N : Nat) (has : HasT) (by_ : ByT) : Prop where
  id_ : ∀ k, k < N → has k k = true ∧ by_ k k = idL N
  ok : ∀ k, k < N → ∀ j, j < N → has k j = true → Vp N (by_ k j) ∧ (∀ i, i < k → pl (by_ k j) i = i) ∧ pl (by_ k j) k = j
structure MemK (N : Nat) (has : HasT) (by_ : ByT) (k : Nat) (p : List Int) : Prop where
  vp : Vp N p
  fix : ∀ i, i < k → pl p i = i
  sf : sft N has by_ (N - k) p = true
structure Closed (N : Nat) (has : HasT) (by_ : ByT) (S : Nat → List Int → Prop) : Prop where
  sv : ∀ k s, S k s → Vp N s ∧ ∀ i, i < k → pl s i = i
  gen : ∀ k, k < N → ∀ j, j < N → has k j = true → Gen N (S k) (by_ k j)
  down : ∀ k, k < N → ∀ s, S (k + 1) s → Gen N (S k) s
  clo : ∀ k, k < N → ∀ j s, j < N → has k j = true → S k s → sft N has by_ (N - k) (th N (by_ k j) s) = true
section
variable {N : Nat} (hN : N ≤ 10) {has : HasT} {by_ : ByT}
include hN
theorem sft_lvl {k : Nat} (hk : k < N) (p : List Int) : sft N has by_ (N - k) p = (has k (pl p k) && sft N has by_ (N - (k + 1)) (th N p (bk N (by_ k (pl p k))))) := by
  obtain ⟨d, hd⟩ : ∃ d, N - k = d + 1 := ⟨N - k - 1, by omega⟩
  rw [hd, sft, show N - (d + 1) = k by omega, show N - (k + 1) = d by omega]
theorem fix_th {p q : List Int} {k : Nat} (hk : k ≤ N) (hp : ∀ i, i < k → pl p i = i) (hq : ∀ i, i < k → pl q i = i) : ∀ i, i < k → pl (th N p q) i = i := fun i hi => by rw [pl_th hN (by omega), hp i hi, hq i hi]
theorem fix_bk {p : List Int} {k : Nat} (hk : k ≤ N) (h : Vp N p) (hp : ∀ i, i < k → pl p i = i) : ∀ i, i < k → pl (bk N p) i = i := fun i hi => by
  have := pl_bk hN h (i := i) (by omega)
  rwa [hp i hi] at this
theorem Chain.rest (hc : Chain N has by_) {k : Nat} (hk : k < N) {p : List Int} (hp : Vp N p) (hf : ∀ i, i < k → pl p i = i) (hj : has k (pl p k) = true) :
    Vp N (th N p (bk N (by_ k (pl p k)))) ∧ ∀ i, i < k + 1 → pl (th N p (bk N (by_ k (pl p k)))) i = i := by
  obtain ⟨h1, h2, h3⟩ := hc.ok k hk _ (hp.lt hN hk) hj
  refine ⟨hp.th hN (h1.bk hN), fun i hi => ?_⟩
  rw [pl_th hN (by omega)]
  by_cases e : i = k
  · subst e
    have := pl_bk hN h1 hk
    rw [h3] at this; exact this
  · rw [hf i (by omega)]; exact fix_bk hN (by omega) h1 h2 i (by omega)
theorem Chain.one (hc : Chain N has by_) : ∀ {d}, d ≤ N → sft N has by_ d (idL N) = true
  | 0, _ => rfl
  | d + 1, h => by
    have hk : N - (d + 1) < N := by omega
    rw [sft, pl_id hN hk, (hc.id_ _ hk).1, (hc.id_ _ hk).2, bk_id hN, id_th hN (vp_id hN), Chain.one hc (by omega)]; rfl
theorem MemK.up (hc : Chain N has by_) {k : Nat} (hk : k < N) {p : List Int} : MemK N has by_ k p ↔ ∃ j q, j < N ∧ has k j = true ∧ MemK N has by_ (k + 1) q ∧ p = th N q (by_ k j) := by
  constructor
  · rintro ⟨h1, h2, h3⟩
    rw [sft_lvl hN hk, Bool.and_eq_true] at h3
    obtain ⟨h4, h5⟩ := hc.rest hN hk h1 h2 h3.1
    exact ⟨pl p k, _, h1.lt hN hk, h3.1, ⟨h4, h5, h3.2⟩, (th_back hN h1 (hc.ok k hk _ (h1.lt hN hk) h3.1).1).symm⟩
  · rintro ⟨j, q, hj, hj2, ⟨h1, h2, h3⟩, rfl⟩
    obtain ⟨g1, g2, g3⟩ := hc.ok k hk j hj hj2
    have hv := h1.th hN g1
    have e : pl (th N q (by_ k j)) k = j := by rw [pl_th hN hk, h2 k (by omega), g3]
    refine ⟨hv, fun i hi => by rw [pl_th hN (by omega), h2 i (by omega), g2 i hi], ?_⟩
    rw [sft_lvl hN hk, e, hj2, th_assoc hN h1 g1 (g1.bk hN), th_bk hN g1, th_id hN h1, h3]; rfl
/-- what sifts from a level on is what the level's generators make -/
theorem Closed.mem (hc : Chain N has by_) {S : Nat → List Int → Prop} (hs : Closed N has by_ S) : ∀ d, d ≤ N → ∀ p, MemK N has by_ (N - d) p ↔ Gen N (S (N - d)) p := by
  intro d
  induction d with
  | zero =>
    intro _ p
    have hS : ∀ s, S (N - 0) s → s = idL N := fun s h => by
      obtain ⟨h1, h2⟩ := hs.sv _ s h
      exact h1.ext hN (vp_id hN) fun i hi => by rw [h2 i (by omega), pl_id hN hi]
    constructor
    · rintro ⟨h1, h2, _⟩
      rw [h1.ext hN (vp_id hN) fun i hi => by rw [h2 i (by omega), pl_id hN hi]]; exact .one
    · intro h
      have : p = idL N := by
        induction h with
        | one => rfl
        | step _ hs ih => rw [ih, hS _ hs, th_id hN (vp_id hN)]
      subst this
      exact ⟨vp_id hN, fun i hi => pl_id hN (by omega), hc.one hN (by omega)⟩
  | succ d ih =>
    intro hd
    have hk : N - (d + 1) < N := by omega
    have ek : N - (d + 1) + 1 = N - d := by omega
    replace ih := ih (by omega)
    rw [← ek] at ih
    generalize N - (d + 1) = k at hk ih
    have hSv : ∀ s, S k s → Vp N s := fun s h => (hs.sv k s h).1
    have hSv' : ∀ s, S (k + 1) s → Vp N s := fun s h => (hs.sv (k + 1) s h).1
    -- the level is closed by its generators
    have hstep : ∀ p s, MemK N has by_ k p → S k s → MemK N has by_ k (th N p s) := by
      intro p s hp hsk
      obtain ⟨j, q, hj, hj2, hq, rfl⟩ := (MemK.up hN hc hk).1 hp
      obtain ⟨g1, g2, g3⟩ := hc.ok k hk j hj hj2
      obtain ⟨s1, s2⟩ := hs.sv k s hsk
      have hr : MemK N has by_ k (th N (by_ k j) s) := ⟨g1.th hN s1, fix_th hN (by omega) g2 s2, hs.clo k hk j s hj hj2 hsk⟩
      obtain ⟨j', q', hj', hj2', hq', e⟩ := (MemK.up hN hc hk).1 hr
      refine (MemK.up hN hc hk).2 ⟨j', th N q q', hj', hj2', (ih _).2 (((ih q).1 hq).mul hN hSv' ((ih q').1 hq')), ?_⟩
      rw [th_assoc hN hq.vp g1 s1, e, th_assoc hN hq.vp hq'.vp (hc.ok k hk j' hj' hj2').1]
    intro p
    constructor
    · intro hp
      obtain ⟨j, q, hj, hj2, hq, rfl⟩ := (MemK.up hN hc hk).1 hp
      exact (((ih q).1 hq).sub hN hSv (hs.down k hk)).mul hN hSv (hs.gen k hk j hj hj2)
    · intro hp
      induction hp with
      | one => exact ⟨vp_id hN, fun i hi => pl_id hN (by omega), hc.one hN (by omega)⟩
      | step _ hs' ihp => exact hstep _ _ ihp hs'
/-- the orbits of a chain in which a group sifts -/
theorem Chain.orbit (hc : Chain N has by_) {S : Nat → List Int → Prop} (hs : Closed N has by_ S) {L : List Int → Prop} (hL : ∀ s, L s → Vp N s) (hsound : ∀ k, k < N → ∀ j, j < N → has k j = true → Gen N L (by_ k j)) (hall : ∀ s, L s → sft N has by_ N s = true) {k j : Nat} (hk : k < N) (hj : j < N) :
    has k j = true ↔ ∃ p, Gen N L p ∧ (∀ i, i < k → pl p i = i) ∧ pl p k = j := by
  have hSv : ∀ s, S 0 s → Vp N s := fun s h => (hs.sv 0 s h).1
  have h0 : ∀ p, MemK N has by_ 0 p ↔ Gen N (S 0) p := fun p => by have := hs.mem hN hc N (Nat.le_refl N) p; rwa [Nat.sub_self] at this
  constructor
  · intro h
    obtain ⟨g1, g2, g3⟩ := hc.ok k hk j hj h
    exact ⟨_, hsound k hk j hj h, g2, g3⟩
  · rintro ⟨p, hp, hf, rfl⟩
    have hp0 : MemK N has by_ 0 p := (h0 p).2 (hp.sub hN hSv fun s h => (h0 s).1 ⟨hL s h, fun i hi => absurd hi (by omega), by rw [Nat.sub_zero]; exact hall s h⟩)
    have down : ∀ m, m ≤ k → sft N has by_ (N - m) p = true := by
      intro m
      induction m with
      | zero => intro _; exact hp0.sf
      | succ m ih =>
        intro hm
        have := ih (by omega)
        rw [sft_lvl hN (show m < N by omega), Bool.and_eq_true, hf m (by omega), (hc.id_ m (by omega)).2, bk_id hN, th_id hN hp0.vp] at this
        exact this.2
    have := down k (Nat.le_refl k)
    rw [sft_lvl hN hk, Bool.and_eq_true] at this
    exact this.1
end

end Go.Proofs.Ytjmenocghjggcaa

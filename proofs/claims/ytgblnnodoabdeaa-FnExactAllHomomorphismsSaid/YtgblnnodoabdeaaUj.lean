/-
Contracts of functions of the given program, by the abstract walk.
-/
import Derived.Test.YtgblnnodoabdeaaAbsY
import Derived.Test.YtgblnnodoabdeaaUc
namespace Go.Proofs.Ytgblnnodoabdeaa
open Go Go.Abs
set_option linter.unusedVariables false
set_option linter.unusedSectionVars false
set_option linter.unusedSimpArgs false
set_option maxRecDepth 100000
/-! partial maps between squares that are kept by the products: plain -/
section
variable (ij : Bool) (N M : Nat) (t s : List Int)
structure PmOk (f : List Int) : Prop where
  by_ : Bytes 10 f
  val : ∀ i, i < N → pl f i < M ∨ pl f i = 255
  out : ∀ i, N ≤ i → i < 10 → pl f i = 255
def PInj (f : List Int) : Prop := ∀ a b, a < N → b < N → pl f a ≠ 255 → pl f a = pl f b → a = b
def PClo (f : List Int) : Prop := ∀ a b, a < N → b < N → pl f a ≠ 255 → pl f b ≠ 255 → pl f (cl t a b) = cl s (pl f a) (pl f b)
def PExt (f g : List Int) : Prop := ∀ a, a < N → pl f a ≠ 255 → pl g a = pl f a
structure PGood (f : List Int) : Prop where
  pm : PmOk N M f
  inj : ij = true → PInj N f
  clo : PClo N t s f
/-- g is the least map that goes on f and leads x to y. -/
structure LE (f : List Int) (x y : Nat) (g : List Int) : Prop where
  good : PGood ij N M t s g
  ext : PExt N f g
  at_ : pl g x = y
  least : ∀ h, PGood ij N M t s h → PExt N f h → pl h x = y → PExt N g h
def NoExt (f : List Int) (x y : Nat) : Prop := ∀ g, PGood ij N M t s g → PExt N f g → pl g x = y → False
open Classical in
noncomputable def lexp (f : List Int) (x y : Nat) : Option (List Int) := if h : ∃ g, LE ij N M t s f x y g then some (Classical.choose h) else none
end
variable {ij : Bool} {N M : Nat} {t s : List Int}
theorem PExt.refl (f : List Int) : PExt N f f := fun _ _ _ => rfl
theorem PExt.trans {f g h : List Int} (h1 : PExt N f g) (h2 : PExt N g h) : PExt N f h := fun a ha hf => by
  have e := h1 a ha hf
  rw [h2 a ha (by rw [e]; exact hf), e]
theorem PExt.dm {f g : List Int} (h : PExt N f g) {a : Nat} (ha : a < N) (hf : pl f a ≠ 255) : pl g a ≠ 255 := by rw [h a ha hf]; exact hf
theorem pm_eq {f g : List Int} (hf : PmOk N M f) (hg : PmOk N M g) (h1 : PExt N f g) (h2 : PExt N g f) : f = g := places_ext hf.by_ hg.by_ fun a ha => by
  by_cases h : a < N
  · by_cases e : pl f a = 255
    · by_cases e2 : pl g a = 255
      · rw [e, e2]
      · exact h2 a h e2
    · exact (h1 a h e).symm
  · rw [hf.out a (by omega) ha, hg.out a (by omega) ha]
theorem LE.unique {f g h : List Int} {x y : Nat} (h1 : LE ij N M t s f x y g) (h2 : LE ij N M t s f x y h) : g = h :=
  pm_eq h1.good.pm h2.good.pm (h1.least h h2.good h2.ext h2.at_) (h2.least g h1.good h1.ext h1.at_)
theorem lexp_some {f g : List Int} {x y : Nat} (h : LE ij N M t s f x y g) : lexp ij N M t s f x y = some g := by
  have hh : ∃ g, LE ij N M t s f x y g := ⟨g, h⟩
  unfold lexp
  rw [dif_pos hh]
  exact congrArg some (LE.unique (Classical.choose_spec hh) h)
theorem lexp_none {f : List Int} {x y : Nat} (h : NoExt ij N M t s f x y) : lexp ij N M t s f x y = none := by
  unfold lexp
  exact dif_neg fun ⟨g, hg⟩ => h g hg.good hg.ext hg.at_
theorem lexp_le {f g : List Int} {x y : Nat} (h : lexp ij N M t s f x y = some g) : LE ij N M t s f x y g := by
  unfold lexp at h
  split at h
  · rename_i hh
    rw [← Option.some.inj h]
    exact Classical.choose_spec hh
  · cases h
/-! ### how many are led -/
def cntL (f : List Int) : Nat → Nat
  | 0 => 0
  | k + 1 => if pl f k = 255 then cntL f k else cntL f k + 1
theorem cnt_le {f : List Int} : ∀ {k}, cntL f k ≤ k
  | 0 => Nat.le_refl _
  | k + 1 => by rw [cntL]; have := cnt_le (f := f) (k := k); split <;> omega
theorem cnt_mono {f g : List Int} : ∀ {k}, (∀ a, a < k → pl f a ≠ 255 → pl g a ≠ 255) → cntL f k ≤ cntL g k
  | 0, _ => Nat.le_refl _
  | k + 1, h => by
    have := cnt_mono (f := f) (g := g) (k := k) fun a ha => h a (by omega)
    have hk := h k (by omega)
    rw [cntL, cntL]
    by_cases e : pl f k = 255
    · rw [if_pos e]; split <;> omega
    · rw [if_neg e, if_neg (hk e)]; omega
theorem cnt_lt {f g : List Int} {x : Nat} : ∀ {k}, (∀ a, a < k → pl f a ≠ 255 → pl g a ≠ 255) → x < k → pl f x = 255 → pl g x ≠ 255 → cntL f k < cntL g k
  | 0, _, h, _, _ => by omega
  | k + 1, h, hx, h1, h2 => by
    rw [cntL, cntL]
    by_cases e : x = k
    · subst e
      have := cnt_mono (f := f) (g := g) (k := x) fun a ha => h a (by omega)
      rw [if_pos h1, if_neg h2]; omega
    · have := cnt_lt (f := f) (g := g) (x := x) (k := k) (fun a ha => h a (by omega)) (by omega) h1 h2
      have hk := h k (by omega)
      by_cases e : pl f k = 255
      · rw [if_pos e]; split <;> omega
      · rw [if_neg e, if_neg (hk e)]; omega
theorem cnt_all {f : List Int} : ∀ {k}, cntL f k = k → ∀ a, a < k → pl f a ≠ 255
  | 0, _, _, h => by omega
  | k + 1, h, a, ha => by
    rw [cntL] at h
    have := cnt_le (f := f) (k := k)
    by_cases e : pl f k = 255
    · rw [if_pos e] at h; omega
    · rw [if_neg e] at h
      by_cases e2 : a = k
      · subst e2; exact e
      · exact cnt_all (f := f) (k := k) (by omega) a (by omega)
theorem cnt_full {f : List Int} : ∀ {k}, (∀ a, a < k → pl f a ≠ 255) → cntL f k = k
  | 0, _ => rfl
  | k + 1, h => by rw [cntL, if_neg (h k (by omega)), cnt_full fun a ha => h a (by omega)]
/-! ### one more -/
theorem pl_put {f : List Int} (hf : f.length = 10) {a b j : Nat} (ha : a < 10) : pl (f.set a (b : Int)) j = if a = j then b else pl f j := by
  unfold pl
  rw [getD_set_int (by omega)]
  split
  · simp
  · rfl
theorem pm_put {f : List Int} (hf : PmOk N M f) (hN : N ≤ 10) (hM : M ≤ 10) {a b : Nat} (ha : a < N) (hb : b < M) : PmOk N M (f.set a (b : Int)) := by
  have e := fun j => pl_put (f := f) (j := j) (b := b) hf.by_.len (show a < 10 by omega)
  refine ⟨bytes_put hf.by_ (by omega) (by omega), fun i hi => ?_, fun i hi h10 => ?_⟩
  · rw [e]; split
    · exact .inl hb
    · exact hf.val i hi
  · rw [e, if_neg (by omega)]; exact hf.out i hi h10
theorem ext_put {f : List Int} (hf : PmOk N M f) (hN : N ≤ 10) {a b : Nat} (ha : a < N) (h : pl f a = 255) : PExt N f (f.set a (b : Int)) := fun c hc hd => by
  rw [pl_put hf.by_.len (by omega), if_neg]
  rintro rfl
  exact hd h
theorem inj_put {f : List Int} (hf : PmOk N M f) (hN : N ≤ 10) (hi : PInj N f) {a b : Nat} (ha : a < N) (hu : ∀ c, c < N → pl f c ≠ b) : PInj N (f.set a (b : Int)) := fun c d hc hd h1 h2 => by
  have e := fun j => pl_put (f := f) (j := j) (b := b) hf.by_.len (show a < 10 by omega)
  rw [e] at h1
  rw [e, e] at h2
  by_cases c1 : a = c
  · by_cases d1 : a = d
    · omega
    · rw [if_pos c1, if_neg d1] at h2; exact absurd h2.symm (hu d hd)
  · by_cases d1 : a = d
    · rw [if_neg c1, if_pos d1] at h2; exact absurd h2 (hu c hc)
    · rw [if_neg c1] at h1; rw [if_neg c1, if_neg d1] at h2; exact hi c d hc hd h1 h2
theorem cnt_put {f : List Int} (hf : PmOk N M f) (hN : N ≤ 10) {a b : Nat} (ha : a < N) (hb : b < 255) (h : pl f a = 255) : cntL f N < cntL (f.set a (b : Int)) N := by
  have e := fun j => pl_put (f := f) (j := j) (b := b) hf.by_.len (show a < 10 by omega)
  refine cnt_lt (x := a) (fun c hc hd => ?_) ha h (by rw [e, if_pos rfl]; omega)
  rw [e]; split
  · omega
  · exact hd
/-! ### the program's queue -/
section
variable (ij N M t s)
structure PutInv (f : List Int) (x y : Nat) (g : List Int) (qs : List (Nat × Nat)) : Prop where
  pm : PmOk N M g
  inj : ij = true → PInj N g
  ext : PExt N f g
  forced : ∀ h, PGood ij N M t s h → PExt N f h → pl h x = y → PExt N g h ∧ ∀ p ∈ qs, pl h p.1 = p.2
  pend : ∀ a b, a < N → b < N → pl g a ≠ 255 → pl g b ≠ 255 → pl g (cl t a b) = cl s (pl g a) (pl g b) ∨ (cl t a b, cl s (pl g a) (pl g b)) ∈ qs
  goal : pl g x = y ∨ (x, y) ∈ qs
  rng : ∀ p ∈ qs, p.1 < N ∧ p.2 < M
  yb : y < M
def addL (t s g : List Int) (a b : Nat) : Nat → List (Nat × Nat)
  | 0 => []
  | z + 1 => addL t s g a b z ++ if pl g z = 255 then [] else [(cl t a z, cl s b (pl g z)), (cl t z a, cl s (pl g z) b)]
end
theorem addL_mem {g : List Int} {a b : Nat} {p : Nat × Nat} : ∀ {z}, p ∈ addL t s g a b z ↔ ∃ c, c < z ∧ pl g c ≠ 255 ∧ (p = (cl t a c, cl s b (pl g c)) ∨ p = (cl t c a, cl s (pl g c) b))
  | 0 => by simp [addL]
  | z + 1 => by
    rw [addL, List.mem_append, addL_mem]
    constructor
    · rintro (⟨c, h1, h2, h3⟩ | h)
      · exact ⟨c, by omega, h2, h3⟩
      · split at h
        · cases h
        · rename_i hz; exact ⟨z, by omega, hz, by simpa using h⟩
    · rintro ⟨c, h1, h2, h3⟩
      by_cases e : c = z
      · subst e; rw [if_neg h2]; exact .inr (by simpa using h3)
      · exact .inl ⟨c, by omega, h2, h3⟩
theorem addL_len {g : List Int} {a b : Nat} : ∀ {z}, (addL t s g a b z).length ≤ 2 * z
  | 0 => by simp [addL]
  | z + 1 => by
    have ih := addL_len (g := g) (a := a) (b := b) (z := z)
    rw [addL, List.length_append]
    split <;> simp <;> omega
theorem inv_init {f : List Int} (hf : PGood ij N M t s f) {x y : Nat} (hx : x < N) (hy : y < M) : PutInv ij N M t s f x y f [(x, y)] := by
  refine ⟨hf.pm, hf.inj, PExt.refl f, fun h _ hE hh => ⟨hE, fun p hp => ?_⟩, fun a b ha hb h1 h2 => .inl (hf.clo a b ha hb h1 h2), .inr (by simp), fun p hp => ?_, hy⟩
  · simp at hp; subst hp; exact hh
  · simp at hp; subst hp; exact ⟨hx, hy⟩
theorem inv_skip {f g : List Int} {x y a b : Nat} {qs : List (Nat × Nat)} (h : PutInv ij N M t s f x y g ((a, b) :: qs)) (he : pl g a = b) : PutInv ij N M t s f x y g qs := by
  refine ⟨h.pm, h.inj, h.ext, fun k h1 h2 h3 => ⟨(h.forced k h1 h2 h3).1, fun p hp => (h.forced k h1 h2 h3).2 p (by simp [hp])⟩, fun c d hc hd h1 h2 => ?_, ?_, fun p hp => h.rng p (by simp [hp]), h.yb⟩
  · rcases h.pend c d hc hd h1 h2 with h3 | h3
    · exact .inl h3
    · rcases List.mem_cons.1 h3 with h4 | h4
      · left
        have e1 : cl t c d = a := congrArg (·.1) h4
        have e2 : cl s (pl g c) (pl g d) = b := congrArg (·.2) h4
        rw [e1, e2]; exact he
      · exact .inr h4
  · rcases h.goal with h3 | h3
    · exact .inl h3
    · rcases List.mem_cons.1 h3 with h4 | h4
      · left
        have e1 : x = a := congrArg (·.1) h4
        have e2 : y = b := congrArg (·.2) h4
        rw [e1, e2]; exact he
      · exact .inr h4
theorem inv_fail {f g : List Int} {x y a b : Nat} {qs : List (Nat × Nat)} (h : PutInv ij N M t s f x y g ((a, b) :: qs)) (hne : pl g a ≠ b) (hd : pl g a ≠ 255) : NoExt ij N M t s f x y := fun k h1 h2 h3 => by
  obtain ⟨e1, e2⟩ := h.forced k h1 h2 h3
  have e3 : pl k a = b := e2 (a, b) (by simp)
  exact hne ((e1 a (h.rng (a, b) (by simp)).1 hd).symm.trans e3)
theorem inv_fail_inj {f g : List Int} {x y a b c : Nat} {qs : List (Nat × Nat)} (hij : ij = true) (hM : M ≤ 10) (h : PutInv ij N M t s f x y g ((a, b) :: qs)) (hne : pl g a ≠ b) (hc : c < N) (hb : pl g c = b) : NoExt ij N M t s f x y := fun k h1 h2 h3 => by
  obtain ⟨e1, e2⟩ := h.forced k h1 h2 h3
  have e3 : pl k a = b := e2 (a, b) (by simp)
  obtain ⟨r1, r2⟩ := h.rng (a, b) (by simp)
  have r2 : b < M := r2
  have e4 : pl k c = b := by rw [e1 c hc (by rw [hb]; omega), hb]
  have := h1.inj hij a c r1 hc (by rw [e3]; omega) (by rw [e3, e4])
  subst this
  exact hne hb
theorem inv_set {f g : List Int} {x y a b : Nat} {qs : List (Nat × Nat)} (hN : N ≤ 10) (hM : M ≤ 10) (ht : SqP N t) (hs : SqP M s) (h : PutInv ij N M t s f x y g ((a, b) :: qs)) (hf : pl g a = 255) (hu : ij = true → ∀ c, c < N → pl g c ≠ b) :
    PutInv ij N M t s f x y (g.set a (b : Int)) (qs ++ addL t s (g.set a (b : Int)) a b N) := by
  obtain ⟨r1, r2⟩ := h.rng (a, b) (by simp)
  have r1 : a < N := r1
  have r2 : b < M := r2
  have e := fun j => pl_put (f := g) (j := j) (b := b) h.pm.by_.len (show a < 10 by omega)
  have pm := pm_put h.pm hN hM r1 r2
  have ex := ext_put (b := b) h.pm hN r1 hf
  have ea : pl (g.set a (b : Int)) a = b := by rw [e, if_pos rfl]
  refine ⟨pm, fun hij => inj_put h.pm hN (h.inj hij) r1 (hu hij), h.ext.trans ex, fun k h1 h2 h3 => ?_, fun c d hc hd h1 h2 => ?_, ?_, fun p hp => ?_, h.yb⟩
  · obtain ⟨e1, e2⟩ := h.forced k h1 h2 h3
    have e3 : pl k a = b := e2 (a, b) (by simp)
    have hE : PExt N (g.set a (b : Int)) k := fun c hc hd => by
      rw [e] at hd ⊢
      by_cases ec : a = c
      · rw [if_pos ec, ← ec]; exact e3
      · rw [if_neg ec] at hd ⊢; exact e1 c hc hd
    refine ⟨hE, fun p hp => ?_⟩
    rcases List.mem_append.1 hp with hp | hp
    · exact e2 p (by simp [hp])
    · obtain ⟨c, hc, hd, h4⟩ := addL_mem.1 hp
      have k1 : pl k a = pl (g.set a (b : Int)) a := hE a r1 (by rw [ea]; omega)
      have k2 := hE c hc hd
      have c1 := h1.clo a c r1 hc (by rw [k1, ea]; omega) (by rw [k2]; exact hd)
      have c2 := h1.clo c a hc r1 (by rw [k2]; exact hd) (by rw [k1, ea]; omega)
      rw [k1, k2, ea] at c1 c2
      rcases h4 with rfl | rfl
      · exact c1
      · exact c2
  · by_cases c1 : a = c
    · right
      refine List.mem_append.2 (.inr (addL_mem.2 ⟨d, hd, h2, .inl ?_⟩))
      rw [← c1, ea]
    · by_cases d1 : a = d
      · right
        refine List.mem_append.2 (.inr (addL_mem.2 ⟨c, hc, h1, .inr ?_⟩))
        rw [← d1, ea]
      · have g1 : pl (g.set a (b : Int)) c = pl g c := by rw [e, if_neg c1]
        have g2 : pl (g.set a (b : Int)) d = pl g d := by rw [e, if_neg d1]
        rw [g1, g2]
        rw [g1] at h1
        rw [g2] at h2
        rcases h.pend c d hc hd h1 h2 with h3 | h3
        · left
          have hz := ht.cl_lt hc hd
          have hv : pl g (cl t c d) ≠ 255 := by
            rw [h3]
            rcases h.pm.val c hc with v1 | v1
            · rcases h.pm.val d hd with v2 | v2
              · have := hs.cl_lt v1 v2; omega
              · exact absurd v2 h2
            · exact absurd v1 h1
          rw [ex _ hz hv]; exact h3
        · rcases List.mem_cons.1 h3 with h4 | h4
          · left
            have e1 : cl t c d = a := congrArg (·.1) h4
            have e2 : cl s (pl g c) (pl g d) = b := congrArg (·.2) h4
            rw [e1, e2]; exact ea
          · exact .inr (List.mem_append.2 (.inl h4))
  · rcases h.goal with h3 | h3
    · by_cases e1 : a = x
      · subst e1
        have := h.yb
        omega
      · left; rw [e, if_neg e1]; exact h3
    · rcases List.mem_cons.1 h3 with h4 | h4
      · left
        have e1 : x = a := congrArg (·.1) h4
        have e2 : y = b := congrArg (·.2) h4
        rw [e1, e2]; exact ea
      · exact .inr (List.mem_append.2 (.inl h4))
  · rcases List.mem_append.1 hp with hp | hp
    · exact h.rng p (by simp [hp])
    · obtain ⟨c, hc, hd, h4⟩ := addL_mem.1 hp
      have hv : pl (g.set a (b : Int)) c < M := by
        rcases pm.val c hc with v | v
        · exact v
        · exact absurd v hd
      rcases h4 with rfl | rfl
      · exact ⟨ht.cl_lt r1 hc, hs.cl_lt r2 hv⟩
      · exact ⟨ht.cl_lt hc r1, hs.cl_lt hv r2⟩
theorem inv_done {f g : List Int} {x y : Nat} (h : PutInv ij N M t s f x y g []) : LE ij N M t s f x y g := by
  refine ⟨⟨h.pm, h.inj, fun a b ha hb h1 h2 => ?_⟩, h.ext, ?_, fun k h1 h2 h3 => (h.forced k h1 h2 h3).1⟩
  · rcases h.pend a b ha hb h1 h2 with h3 | h3
    · exact h3
    · cases h3
  · rcases h.goal with h3 | h3
    · exact h3
    · cases h3
/-! ### the reference's recursion -/
section
variable (ij : Bool) (N : Nat) (t s : List Int)
def cloL (rec : List Int → Nat → Nat → List Int × Bool) (a b : Nat) : Nat → List Int → List Int × Bool
  | 0, f => (f, true)
  | z + 1, f => match cloL rec a b z f with
    | (g, false) => (g, false)
    | (g, true) => if pl g z = 255 then (g, true) else match rec g (cl t a z) (cl s b (pl g z)) with
      | (h, false) => (h, false)
      | (h, true) => rec h (cl t z a) (cl s (pl g z) b)
def usd (f : List Int) (b : Nat) : Bool := (List.range N).any fun c => pl f c == b
def clo : Nat → List Int → Nat → Nat → List Int × Bool
  | 0, f, a, b => (f, decide (pl f a = b))
  | d + 1, f, a, b => if pl f a ≠ 255 ∨ (ij = true ∧ usd N f b = true) then (f, decide (pl f a = b)) else cloL t s (clo d) a b N (f.set a (b : Int))
end
theorem usd_iff {f : List Int} {b : Nat} : usd N f b = true ↔ ∃ c, c < N ∧ pl f c = b := by
  simp [usd]
section
variable (ij : Bool) (N M : Nat) (t s : List Int)
/-- New pairs are closed. -/
def PNew (f g : List Int) : Prop := ∀ c d, c < N → d < N → pl g c ≠ 255 → pl g d ≠ 255 → (pl f c = 255 ∨ pl f d = 255) → pl g (cl t c d) = cl s (pl g c) (pl g d)
structure Mid (g : List Int) : Prop where
  pm : PmOk N M g
  inj : ij = true → PInj N g
def Frc (f : List Int) (a b : Nat) (r : List Int × Bool) : Prop := ∀ h, PGood ij N M t s h → PExt N f h → pl h a = b → r.2 = true ∧ PExt N r.1 h
structure CloR (f : List Int) (a b : Nat) (r : List Int × Bool) : Prop where
  mid : Mid ij N M r.1
  ext : PExt N f r.1
  frc : Frc ij N M t s f a b r
  at_ : r.2 = true → pl r.1 a = b
  new : r.2 = true → PNew N t s f r.1
end
theorem new_self {f : List Int} : PNew N t s f f := fun c d _ _ h1 h2 h => by rcases h with h | h <;> contradiction
/-- Closed at a pair: so it stays. -/
theorem clo_stay {f g : List Int} (hM : M ≤ 10) (ht : SqP N t) (hs : SqP M s) (hf : PmOk N M f) (hE : PExt N f g) {c d : Nat} (hc : c < N) (hd : d < N) (h1 : pl f c ≠ 255) (h2 : pl f d ≠ 255) (h : pl f (cl t c d) = cl s (pl f c) (pl f d)) :
    pl g (cl t c d) = cl s (pl g c) (pl g d) := by
  have hv : pl f (cl t c d) ≠ 255 := by
    rw [h]
    rcases hf.val c hc with v1 | v1
    · rcases hf.val d hd with v2 | v2
      · have := hs.cl_lt v1 v2; omega
      · exact absurd v2 h2
    · exact absurd v1 h1
  rw [hE c hc h1, hE d hd h2, hE _ (ht.cl_lt hc hd) hv, h]
theorem new_trans {f g h : List Int} (hM : M ≤ 10) (ht : SqP N t) (hs : SqP M s) (hg : PmOk N M g) (h1 : PNew N t s f g) (h2 : PNew N t s g h) (hE : PExt N g h) : PNew N t s f h := fun c d hc hd e1 e2 e => by
  by_cases k1 : pl g c = 255
  · exact h2 c d hc hd e1 e2 (.inl k1)
  · by_cases k2 : pl g d = 255
    · exact h2 c d hc hd e1 e2 (.inr k2)
    · exact clo_stay hM ht hs hg hE hc hd k1 k2 (h1 c d hc hd k1 k2 e)
/-- What the loop has done ahead of z. -/
structure LpR (f : List Int) (a b : Nat) (z : Nat) (r : List Int × Bool) (ij : Bool) (N M : Nat) (t s : List Int) : Prop where
  mid : Mid ij N M r.1
  ext : PExt N f r.1
  frc : Frc ij N M t s f a b r
  new : r.2 = true → PNew N t s f r.1
  own : r.2 = true → ∀ c, c < z → c < N → pl f c ≠ 255 → pl r.1 (cl t a c) = cl s b (pl r.1 c) ∧ pl r.1 (cl t c a) = cl s (pl r.1 c) b
theorem cloL_ok (hN : N ≤ 10) (hM : M ≤ 10) (ht : SqP N t) (hs : SqP M s) {rec : List Int → Nat → Nat → List Int × Bool} {a b d : Nat} (ha : a < N) (hb : b < M)
    (hrec : ∀ f x y, Mid ij N M f → x < N → y < M → N ≤ cntL f N + d → CloR ij N M t s f x y (rec f x y)) {f : List Int} (hf : Mid ij N M f) (fa : pl f a = b) (hd : N ≤ cntL f N + d) :
    ∀ z, z ≤ N → LpR f a b z (cloL t s rec a b z f) ij N M t s := by
  intro z
  induction z with
  | zero => intro _; exact ⟨hf, PExt.refl f, fun h _ hE _ => ⟨rfl, hE⟩, fun _ => new_self, fun _ c hc => by omega⟩
  | succ z ih =>
    intro hz
    have ih := ih (by omega)
    rw [cloL]
    generalize cloL t s rec a b z f = r0 at ih
    obtain ⟨g, ok⟩ := r0
    cases ok
    · exact ⟨ih.mid, ih.ext, fun h h1 h2 h3 => absurd (ih.frc h h1 h2 h3).1 (by simp), fun h => (by cases h), fun h => (by cases h)⟩
    · have hg : Mid ij N M g := ih.mid
      have hE : PExt N f g := ih.ext
      have hnew : PNew N t s f g := ih.new rfl
      have ga : pl g a = b := by rw [hE a ha (by rw [fa]; omega), fa]
      simp only
      by_cases e : pl g z = 255
      · rw [if_pos e]
        refine ⟨hg, hE, ih.frc, fun _ => hnew, fun _ c hc hcN hfc => ?_⟩
        by_cases ec : c = z
        · subst ec
          exact absurd e (hE.dm hcN hfc)
        · exact ih.own rfl c (by omega) hcN hfc
      · rw [if_neg e]
        have hzM : pl g z < M := by
          rcases hg.pm.val z (by omega) with v | v
          · exact v
          · exact absurd v e
        have hcnt : N ≤ cntL g N + d := by
          have := cnt_mono (f := f) (g := g) (k := N) fun c hc hfc => hE.dm hc hfc
          omega
        have R1 := hrec g (cl t a z) (cl s b (pl g z)) hg (ht.cl_lt ha (by omega)) (hs.cl_lt hb hzM) hcnt
        have F1 : ∀ h, PGood ij N M t s h → PExt N f h → pl h a = b → PExt N g h ∧ pl h (cl t a z) = cl s b (pl g z) ∧ pl h (cl t z a) = cl s (pl g z) b := fun h h1 h2 h3 => by
          have k1 : PExt N g h := (ih.frc h h1 h2 h3).2
          have k2 := k1 z (by omega) e
          have c1 := h1.clo a z ha (by omega) (by rw [h3]; omega) (by rw [k2]; exact e)
          have c2 := h1.clo z a (by omega) ha (by rw [k2]; exact e) (by rw [h3]; omega)
          rw [k2, h3] at c1 c2
          exact ⟨k1, c1, c2⟩
        generalize rec g (cl t a z) (cl s b (pl g z)) = r1 at R1
        obtain ⟨h1, ok1⟩ := r1
        cases ok1
        · refine ⟨R1.mid, hE.trans R1.ext, fun h k1 k2 k3 => ?_, fun hh => (by cases hh), fun hh => (by cases hh)⟩
          obtain ⟨m1, m2, m3⟩ := F1 h k1 k2 k3
          exact absurd (R1.frc h k1 m1 m2).1 (by simp)
        · simp only
          have hm1 : Mid ij N M h1 := R1.mid
          have hE1 : PExt N g h1 := R1.ext
          have hcnt1 : N ≤ cntL h1 N + d := by
            have := cnt_mono (f := g) (g := h1) (k := N) fun c hc hfc => hE1.dm hc hfc
            omega
          have R2 := hrec h1 (cl t z a) (cl s (pl g z) b) hm1 (ht.cl_lt (by omega) ha) (hs.cl_lt hzM hb) hcnt1
          generalize rec h1 (cl t z a) (cl s (pl g z) b) = r2 at R2
          have n2 : PNew N t s f h1 := new_trans hM ht hs hg.pm hnew (R1.new rfl) hE1
          refine ⟨R2.mid, (hE.trans hE1).trans R2.ext, fun h k1 k2 k3 => ?_, fun ok2 => new_trans hM ht hs hm1.pm n2 (R2.new ok2) R2.ext, fun ok2 c hc hcN hfc => ?_⟩
          · obtain ⟨m1, m2, m3⟩ := F1 h k1 k2 k3
            exact R2.frc h k1 (R1.frc h k1 m1 m2).2 m3
          · have a1 : pl h1 a = b := by rw [hE1 a ha (by rw [ga]; omega), ga]
            have a2 : pl r2.1 a = b := by rw [R2.ext a ha (by rw [a1]; omega), a1]
            by_cases ec : c = z
            · subst ec
              have z1 := hE1 c hcN e
              have z2 := R2.ext c hcN (by rw [z1]; exact e)
              have p1 : pl h1 (cl t a c) = cl s b (pl g c) := R1.at_ rfl
              have p1' : pl h1 (cl t a c) = cl s (pl h1 a) (pl h1 c) := by rw [p1, a1, z1]
              have q1 := clo_stay hM ht hs hm1.pm R2.ext ha hcN (by rw [a1]; omega) (by rw [z1]; exact e) p1'
              have p2 : pl r2.1 (cl t c a) = cl s (pl g c) b := R2.at_ ok2
              rw [a2] at q1
              exact ⟨q1, by rw [p2, z2, z1]⟩
            · obtain ⟨o1, o2⟩ := ih.own rfl c (by omega) hcN hfc
              have gc : pl g c ≠ 255 := hE.dm hcN hfc
              have s1 := clo_stay hM ht hs hg.pm (hE1.trans R2.ext) ha hcN (by rw [ga]; omega) gc (by rw [ga]; exact o1)
              have s2 := clo_stay hM ht hs hg.pm (hE1.trans R2.ext) hcN ha gc (by rw [ga]; omega) (by rw [ga]; exact o2)
              rw [a2] at s1 s2
              exact ⟨s1, s2⟩
theorem clo_ok (hN : N ≤ 10) (hM : M ≤ 10) (ht : SqP N t) (hs : SqP M s) : ∀ d f a b, Mid ij N M f → a < N → b < M → N ≤ cntL f N + d → CloR ij N M t s f a b (clo ij N t s d f a b)
  | 0, f, a, b, hf, ha, hb, hc => by
    have hdm : pl f a ≠ 255 := cnt_all (by have := cnt_le (f := f) (k := N); omega) a ha
    refine ⟨hf, PExt.refl f, fun h h1 h2 h3 => ⟨?_, h2⟩, fun h => of_decide_eq_true h, fun _ => new_self⟩
    exact decide_eq_true (by rw [← h2 a ha hdm, h3])
  | d + 1, f, a, b, hf, ha, hb, hc => by
    rw [clo]
    by_cases e : pl f a ≠ 255 ∨ (ij = true ∧ usd N f b = true)
    · rw [if_pos e]
      refine ⟨hf, PExt.refl f, fun h h1 h2 h3 => ⟨?_, h2⟩, fun h => of_decide_eq_true h, fun _ => new_self⟩
      refine decide_eq_true ?_
      by_cases e1 : pl f a = 255
      · rcases e with e | ⟨hij, e⟩
        · exact absurd e1 e
        · obtain ⟨c, hcN, hcb⟩ := usd_iff.1 e
          have k := h2 c hcN (by rw [hcb]; omega)
          have := h1.inj hij c a hcN ha (by rw [k, hcb]; omega) (by rw [k, hcb, h3])
          subst this; exact hcb
      · rw [← h2 a ha e1, h3]
    · rw [if_neg e]
      have e1 : pl f a = 255 := Decidable.byContradiction fun h => e (.inl h)
      have e2 : ij = true → ∀ c, c < N → pl f c ≠ b := fun hij c hcN hcb => e (.inr ⟨hij, usd_iff.2 ⟨c, hcN, hcb⟩⟩)
      have hm : Mid ij N M (f.set a (b : Int)) := ⟨pm_put hf.pm hN hM ha hb, fun hij => inj_put hf.pm hN (hf.inj hij) ha (e2 hij)⟩
      have hE := ext_put (b := b) hf.pm hN ha e1
      have ea : pl (f.set a (b : Int)) a = b := by rw [pl_put hf.pm.by_.len (by omega), if_pos rfl]
      have hcn := cnt_put hf.pm hN ha (show b < 255 by omega) e1
      have L := cloL_ok hN hM ht hs ha hb (clo_ok hN hM ht hs d) hm ea (by omega) N (Nat.le_refl N)
      generalize cloL t s (clo ij N t s d) a b N (f.set a (b : Int)) = r at L
      have ra : pl r.1 a = b := by rw [L.ext a ha (by rw [ea]; omega), ea]
      refine ⟨L.mid, hE.trans L.ext, fun h h1 h2 h3 => L.frc h h1 (fun c hcN hcd => ?_) h3, fun _ => ra, fun ok c d' hcN hdN k1 k2 k => ?_⟩
      · rw [pl_put hf.pm.by_.len (by omega)] at hcd ⊢
        split
        · rename_i ec; rw [← ec]; exact h3
        · rename_i ec; rw [if_neg ec] at hcd; exact h2 c hcN hcd
      · have fa : ∀ j, pl (f.set a (b : Int)) j = if a = j then b else pl f j := fun j => pl_put hf.pm.by_.len (by omega)
        by_cases n1 : pl (f.set a (b : Int)) c = 255 ∨ pl (f.set a (b : Int)) d' = 255
        · exact L.new ok c d' hcN hdN k1 k2 n1
        · have n2 : pl (f.set a (b : Int)) c ≠ 255 := fun h => n1 (.inl h)
          have n3 : pl (f.set a (b : Int)) d' ≠ 255 := fun h => n1 (.inr h)
          by_cases c1 : a = c
          · subst c1
            obtain ⟨o1, _⟩ := L.own ok d' hdN hdN n3
            rw [o1, ra]
          · by_cases d1 : a = d'
            · subst d1
              obtain ⟨_, o2⟩ := L.own ok c hcN hcN n2
              rw [o2, ra]
            · rw [fa, if_neg c1] at n2
              rw [fa, if_neg d1] at n3
              rcases k with k | k <;> contradiction
theorem clo_lexp (hN : N ≤ 10) (hM : M ≤ 10) (ht : SqP N t) (hs : SqP M s) {d a b : Nat} {f : List Int} (hf : PGood ij N M t s f) (ha : a < N) (hb : b < M) (hc : N ≤ cntL f N + d) :
    lexp ij N M t s f a b = if (clo ij N t s d f a b).2 then some (clo ij N t s d f a b).1 else none := by
  have R := clo_ok hN hM ht hs d f a b ⟨hf.pm, hf.inj⟩ ha hb hc
  generalize clo ij N t s d f a b = r at R
  obtain ⟨g, ok⟩ := r
  cases ok
  · refine lexp_none fun h h1 h2 h3 => ?_
    exact absurd (R.frc h h1 h2 h3).1 (by simp)
  · refine lexp_some ⟨⟨R.mid.pm, R.mid.inj, fun c d hc hd k1 k2 => ?_⟩, R.ext, R.at_ rfl, fun h h1 h2 h3 => (R.frc h h1 h2 h3).2⟩
    by_cases n1 : pl f c = 255
    · exact R.new rfl c d hc hd k1 k2 (.inl n1)
    · by_cases n2 : pl f d = 255
      · exact R.new rfl c d hc hd k1 k2 (.inr n2)
      · exact clo_stay hM ht hs hf.pm R.ext hc hd n1 n2 (hf.clo c d hc hd n1 n2)

end Go.Proofs.Ytgblnnodoabdeaa

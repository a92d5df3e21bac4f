/-
Contracts of functions of the given program, by the abstract walk.
-/
import Derived.Test.YtgblnnodoabdeaaAbsY
import Derived.Test.YtgblnnodoabdeaaUm
namespace Go.Proofs.Ytgblnnodoabdeaa
open Go Go.Abs
set_option linter.unusedVariables false
set_option linter.unusedSectionVars false
set_option linter.unusedSimpArgs false
set_option maxRecDepth 100000
/-! isomorphisms: how many there can be -/
def cntP (p : Nat → Bool) : Nat → Nat
  | 0 => 0
  | k + 1 => if p k then cntP p k + 1 else cntP p k
theorem cntP_congr {p q : Nat → Bool} : ∀ {k}, (∀ i, i < k → p i = q i) → cntP p k = cntP q k
  | 0, _ => rfl
  | k + 1, h => by rw [cntP, cntP, cntP_congr fun i hi => h i (by omega), h k (by omega)]
theorem cntP_mono {p q : Nat → Bool} : ∀ {k}, (∀ i, i < k → p i = true → q i = true) → cntP p k ≤ cntP q k
  | 0, _ => Nat.le_refl _
  | k + 1, h => by
    have ih := cntP_mono (p := p) (q := q) (k := k) fun i hi => h i (by omega)
    have hk := h k (by omega)
    rw [cntP, cntP]
    by_cases e : p k = true
    · rw [if_pos e, if_pos (hk e)]; omega
    · rw [if_neg e]; split <;> omega
theorem cntP_disj {p q : Nat → Bool} : ∀ {k}, (∀ i, i < k → ¬(p i = true ∧ q i = true)) → cntP p k + cntP q k ≤ k
  | 0, _ => Nat.le_refl _
  | k + 1, h => by
    have ih := cntP_disj (p := p) (q := q) (k := k) fun i hi => h i (by omega)
    have hk := h k (by omega)
    rw [cntP, cntP]
    by_cases e : p k = true
    · rw [if_pos e, if_neg fun e2 => hk ⟨e, e2⟩]; omega
    · rw [if_neg e]; split <;> omega
theorem cntP_add {p : Nat → Bool} {a : Nat} : ∀ {k}, a < k → p a = false → cntP (fun i => p i || decide (i = a)) k = cntP p k + 1
  | 0, h, _ => by omega
  | k + 1, h, hp => by
    rw [cntP, cntP]
    by_cases e : a = k
    · subst e
      rw [cntP_congr (p := fun i => p i || decide (i = a)) (q := p) fun i hi => by simp [show i ≠ a by omega], hp]
      simp
    · rw [cntP_add (by omega) hp]
      have : decide (k = a) = false := decide_eq_false (by omega)
      simp only [this, Bool.or_false]
      split <;> rfl
theorem cntP_lt {p q : Nat → Bool} {a k : Nat} (h : ∀ i, i < k → p i = true → q i = true) (ha : a < k) (h1 : p a = false) (h2 : q a = true) : cntP p k < cntP q k := by
  have e := cntP_add ha h1
  have := cntP_mono (p := fun i => p i || decide (i = a)) (q := q) (k := k) fun i hi hp => by
    simp only [Bool.or_eq_true, decide_eq_true_eq] at hp
    rcases hp with hp | rfl
    · exact h i hi hp
    · exact h2
  omega
def imgP (p : Nat → Bool) (f : Nat → Nat) (m : Nat) (j : Nat) : Bool := (List.range m).any fun i => p i && f i == j
theorem imgP_iff {p : Nat → Bool} {f : Nat → Nat} {m j : Nat} : imgP p f m j = true ↔ ∃ i, i < m ∧ p i = true ∧ f i = j := by simp [imgP]
theorem imgP_cnt {p : Nat → Bool} {f : Nat → Nat} {k : Nat} (hi : ∀ a b, a < k → b < k → p a = true → p b = true → f a = f b → a = b) (hb : ∀ a, a < k → p a = true → f a < k) : ∀ {m}, m ≤ k → cntP (imgP p f m) k = cntP p m
  | 0, _ => by
    have : ∀ k, cntP (imgP p f 0) k = 0 := fun k => by
      induction k with
      | zero => rfl
      | succ k ih => rw [cntP, ih, if_neg (by simp [imgP])]
    exact this k
  | m + 1, hm => by
    have ih := imgP_cnt hi hb (m := m) (by omega)
    rw [cntP]
    by_cases e : p m = true
    · have hn : imgP p f m (f m) = false := by
        cases h : imgP p f m (f m)
        · rfl
        · obtain ⟨i, h1, h2, h3⟩ := imgP_iff.1 h
          have := hi i m (by omega) (by omega) h2 e h3
          omega
      rw [if_pos e, ← ih, ← cntP_add (hb m (by omega) e) hn]
      refine cntP_congr fun j hj => ?_
      rw [Bool.eq_iff_iff, imgP_iff, Bool.or_eq_true, imgP_iff, decide_eq_true_eq]
      constructor
      · rintro ⟨i, h1, h2, h3⟩
        by_cases ei : i = m
        · subst ei; exact .inr h3.symm
        · exact .inl ⟨i, by omega, h2, h3⟩
      · rintro (⟨i, h1, h2, h3⟩ | rfl)
        · exact ⟨i, by omega, h2, h3⟩
        · exact ⟨m, by omega, e, rfl⟩
    · rw [if_neg e, ← ih]
      refine cntP_congr fun j hj => ?_
      rw [Bool.eq_iff_iff, imgP_iff, imgP_iff]
      constructor
      · rintro ⟨i, h1, h2, h3⟩
        by_cases ei : i = m
        · subst ei; exact absurd h2 e
        · exact ⟨i, by omega, h2, h3⟩
      · rintro ⟨i, h1, h2, h3⟩
        exact ⟨i, by omega, h2, h3⟩
theorem cnt_cntP {f : List Int} : ∀ {k}, cntL f k = cntP (fun i => decide (pl f i ≠ 255)) k
  | 0 => rfl
  | k + 1 => by
    rw [cntL, cntP, cnt_cntP (k := k)]
    by_cases e : pl f k = 255
    · simp [e]
    · simp [e]
/-- What is closed and not all is at most half. -/
theorem clo_half {ij : Bool} {N M : Nat} {t s f : List Int} (hN : N ≤ 10) (hM : M ≤ 10) (ht : SqP N t) (hs : SqP M s) (hf : PGood ij N M t s f) {x : Nat} (hx : x < N) (h : pl f x = 255) : 2 * cntL f N ≤ N := by
  have dom : ∀ a b, a < N → b < N → pl f a ≠ 255 → pl f b ≠ 255 → pl f (cl t a b) ≠ 255 := fun a b ha hb h1 h2 => by
    rw [hf.clo a b ha hb h1 h2]
    rcases hf.pm.val a ha with v1 | v1
    · rcases hf.pm.val b hb with v2 | v2
      · have := hs.cl_lt v1 v2; omega
      · exact absurd v2 h2
    · exact absurd v1 h1
  rw [cnt_cntP]
  generalize hp : (fun i => decide (pl f i ≠ 255)) = p
  have hpi : ∀ i, p i = true ↔ pl f i ≠ 255 := fun i => by rw [← hp]; simp
  have key : ∀ d, d < N → p d = true → p (cl t x d) = false := fun d hd hpd => by
    cases hq : p (cl t x d)
    · rfl
    · have inj : ∀ a b, a < N → b < N → p a = true → p b = true → cl t a d = cl t b d → a = b := fun a b ha hb _ _ e => (ht.colP hd).inj hN ha hb e
      have e1 := imgP_cnt (p := p) (f := fun z => cl t z d) (k := N) inj (fun a ha _ => ht.cl_lt ha hd) (Nat.le_refl N)
      have sub : ∀ j, j < N → imgP p (fun z => cl t z d) N j = true → p j = true := fun j _ hj => by
        obtain ⟨i, h1, h2, h3⟩ := imgP_iff.1 hj
        rw [← h3]
        exact (hpi _).2 (dom i d h1 hd ((hpi i).1 h2) ((hpi d).1 hpd))
      have hni : imgP p (fun z => cl t z d) N (cl t x d) = false := by
        cases hi : imgP p (fun z => cl t z d) N (cl t x d)
        · rfl
        · obtain ⟨i, h1, h2, h3⟩ := imgP_iff.1 hi
          have : i = x := (ht.colP hd).inj hN h1 hx h3
          subst this
          exact absurd h ((hpi i).1 h2)
      have := cntP_lt sub (ht.cl_lt hx hd) hni hq
      omega
  have e2 := imgP_cnt (p := p) (f := fun d => cl t x d) (k := N) (fun a b ha hb _ _ e => (ht.rowP hx).inj hN ha hb e) (fun a ha _ => ht.cl_lt hx ha) (Nat.le_refl N)
  have := cntP_disj (p := p) (q := imgP p (fun d => cl t x d) N) (k := N) fun i hi hh => by
    obtain ⟨d, h1, h2, h3⟩ := imgP_iff.1 hh.2
    have := key d h1 h2
    rw [h3, hh.1] at this
    cases this
  omega
def noM (_ : Nat) : Bool := true
theorem ismIn_no {N : Nat} {t s : List Int} {rec : List Int → List (List Int) → List (List Int)} {f : List Int} {x y : Nat} {L : List (List Int)} : ismIn N t s noM rec f x (y + 1) L = (match lexp true N N t s f x y with | some g => rec g (ismIn N t s noM rec f x y L) | none => ismIn N t s noM rec f x y L) := by
  rw [ismIn]; exact if_pos rfl
theorem ismIn_noLen {N : Nat} {t s : List Int} {rec : List Int → List (List Int) → List (List Int)} {f : List Int} {x B : Nat} (hr : ∀ y g L, y < N → lexp true N N t s f x y = some g → (rec g L).length ≤ L.length + B) {L : List (List Int)} : ∀ {y}, y ≤ N → (ismIn N t s noM rec f x y L).length ≤ L.length + y * B
  | 0, _ => by simp [ismIn]
  | y + 1, hy => by
    have ih := ismIn_noLen hr (L := L) (y := y) (by omega)
    rw [ismIn_no, Nat.add_mul, Nat.one_mul]
    split
    · rename_i g hg
      have := hr y g (ismIn N t s noM rec f x y L) (by omega) hg
      omega
    · omega
theorem ism_noLen {N : Nat} {t s : List Int} (hN : N ≤ 10) (ht : SqP N t) (hs : SqP N s) : ∀ {d f L}, PGood true N N t s f → (ism N t s noM d f L).length ≤ L.length + 10 ^ (6 - cntL f N)
  | 0, f, L, _ => by rw [ism]; exact Nat.le_add_right _ _
  | d + 1, f, L, hf => by
    have h1 : 1 ≤ 10 ^ (6 - cntL f N) := Nat.one_le_iff_ne_zero.2 (by have := Nat.pow_pos (n := 6 - cntL f N) (show 0 < 10 by decide); omega)
    rw [ism]
    split
    · rename_i hx
      have hfx : pl f (fnd (pl f) 255 N) = 255 := fnd_at hx
      have hh := clo_half hN hN ht hs hf hx hfx
      have := ismIn_noLen (N := N) (t := t) (s := s) (rec := ism N t s noM d) (f := f) (x := fnd (pl f) 255 N) (B := 10 ^ (5 - cntL f N)) (fun y g L hy hg => by
        have hL := lexp_le hg
        have hc := le_cnt hN hx hy hfx hL
        refine Nat.le_trans (ism_noLen hN ht hs hL.good) (Nat.add_le_add_left (Nat.pow_le_pow_right (by decide) (by omega)) _)) (L := L) (y := N) (Nat.le_refl N)
      refine Nat.le_trans this (Nat.add_le_add_left ?_ _)
      rw [show 6 - cntL f N = 5 - cntL f N + 1 by omega, Nat.pow_succ, Nat.mul_comm]
      exact Nat.mul_le_mul_left _ hN
    · rw [List.length_append]; simp; omega
/-! ### what the limit cuts off -/
theorem ismIn_pre {N : Nat} {t s : List Int} {lim : Nat → Bool} {rec : List Int → List (List Int) → List (List Int)} (hr : ∀ g L, ∃ A, rec g L = L ++ A) {f : List Int} {x : Nat} {L : List (List Int)} : ∀ {y}, ∃ A, ismIn N t s lim rec f x y L = L ++ A
  | 0 => ⟨[], by simp [ismIn]⟩
  | y + 1 => by
    obtain ⟨A, hA⟩ := ismIn_pre (N := N) (t := t) (s := s) (lim := lim) hr (f := f) (x := x) (L := L) (y := y)
    rw [ismIn]
    split
    · split
      · rename_i g _
        obtain ⟨B, hB⟩ := hr g (ismIn N t s lim rec f x y L)
        exact ⟨A ++ B, by rw [hB, hA, List.append_assoc]⟩
      · exact ⟨A, hA⟩
    · exact ⟨A, hA⟩
theorem ism_pre {N : Nat} {t s : List Int} {lim : Nat → Bool} : ∀ {d f L}, ∃ A, ism N t s lim d f L = L ++ A
  | 0, _, L => ⟨[], by simp [ism]⟩
  | d + 1, f, L => by
    rw [ism]
    split
    · exact ismIn_pre fun g L => ism_pre
    · exact ⟨_, rfl⟩
theorem ismIn_mono {N : Nat} {t s : List Int} {lim : Nat → Bool} {rec : List Int → List (List Int) → List (List Int)} (hr : ∀ g L, L.length ≤ (rec g L).length) {f : List Int} {x y : Nat} {L : List (List Int)} : ∀ {z}, y ≤ z → (ismIn N t s lim rec f x y L).length ≤ (ismIn N t s lim rec f x z L).length
  | 0, h => by obtain rfl : y = 0 := by omega
               exact Nat.le_refl _
  | z + 1, h => by
    by_cases e : y = z + 1
    · rw [e]; exact Nat.le_refl _
    · have ih := ismIn_mono (N := N) (t := t) (s := s) (lim := lim) hr (f := f) (x := x) (y := y) (L := L) (z := z) (by omega)
      refine Nat.le_trans ih ?_
      rw [ismIn]
      split
      · split
        · exact hr _ _
        · exact Nat.le_refl _
      · exact Nat.le_refl _
theorem ismIn_cut {N : Nat} {t s : List Int} {most : Nat} {rec rec' : List Int → List (List Int) → List (List Int)} (hp : ∀ g L, ∃ A, rec g L = L ++ A) (hr : ∀ g L, (rec g L).length ≤ most → rec' g L = rec g L) {f : List Int} {x : Nat} {L : List (List Int)} : ∀ {y}, (ismIn N t s noM rec f x y L).length ≤ most → ismIn N t s (ltM most) rec' f x y L = ismIn N t s noM rec f x y L
  | 0, _ => rfl
  | y + 1, h => by
    have hm := ismIn_mono (N := N) (t := t) (s := s) (lim := noM) (rec := rec) (fun g L => by obtain ⟨A, hA⟩ := hp g L; rw [hA, List.length_append]; omega) (f := f) (x := x) (y := y) (L := L) (z := y + 1) (by omega)
    have ih := ismIn_cut (N := N) (t := t) (s := s) hp hr (f := f) (x := x) (L := L) (y := y) (by omega)
    rw [ismIn_no] at h hm ⊢
    rw [ismIn, ih]
    split
    · rename_i hl
      split
      · rename_i g hg
        rw [hg] at h ⊢
        exact hr g _ h
      · rename_i hg
        rw [hg]
    · rename_i hl
      have hl : ¬ (ismIn N t s noM rec f x y L).length < most := fun hh => hl (decide_eq_true hh)
      split
      · rename_i g hg
        rw [hg] at h
        simp only at h
        obtain ⟨A, hA⟩ := hp g (ismIn N t s noM rec f x y L)
        rw [hA] at h ⊢
        rw [List.length_append] at h
        have : A = [] := List.eq_nil_of_length_eq_zero (by omega)
        rw [this, List.append_nil]
      · rfl
theorem ism_cut {N : Nat} {t s : List Int} {most : Nat} : ∀ {d f L}, (ism N t s noM d f L).length ≤ most → ism N t s (ltM most) d f L = ism N t s noM d f L
  | 0, _, _, _ => rfl
  | d + 1, f, L, h => by
    rw [ism] at h ⊢
    rw [ism]
    split
    · rename_i hx
      rw [if_pos hx] at h
      exact ismIn_cut (fun g L => ism_pre) (fun g L hh => ism_cut hh) h
    · rfl
theorem ism_million {N : Nat} {t s : List Int} (hN : N ≤ 10) (ht : SqP N t) (hs : SqP N s) {d : Nat} : ism N t s (ltM 1000000) d freeL [] = ism N t s noM d freeL [] := by
  refine ism_cut ?_
  have := ism_noLen hN ht hs (d := d) (L := []) (free_good (ij := true) (M := N) (t := t) (s := s) hN)
  rw [free_cnt (by omega)] at this
  simpa using this

end Go.Proofs.Ytgblnnodoabdeaa

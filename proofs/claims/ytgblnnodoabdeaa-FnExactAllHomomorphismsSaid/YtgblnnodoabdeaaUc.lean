/-
Contracts of functions of the given program, by the abstract walk.
-/
import Derived.Test.YtgblnnodoabdeaaAbsY
import Derived.Test.YtgblnnodoabdeaaUb
import Derived.Test.YtgblnnodoabdeaaDi
namespace Go.Proofs.Ytgblnnodoabdeaa
open Go Go.Abs
set_option linter.unusedVariables false
set_option linter.unusedSectionVars false
set_option linter.unusedSimpArgs false
set_option maxRecDepth 100000
/-! isotopes: plain -/
theorem getD_set_u {a : List Int} {i j : Nat} {v : Int} (hi : i < a.length) : (a.set i v).getD j 0 = if i = j then v else a.getD j 0 := getD_set_int hi
theorem bytes_put {k : Nat} {t : List Int} (h : Bytes k t) {i : Nat} {v : Int} (h0 : 0 ≤ v) (h1 : v < 256) : Bytes k (t.set i v) := ⟨by rw [List.length_set, h.len], fun j => by
  by_cases hi : i < t.length
  · rw [getD_set_int hi]; split
    · exact ⟨h0, h1⟩
    · exact h.rng j
  · rw [List.set_eq_of_length_le (by omega)]; exact h.rng j⟩
theorem isoIn_bytes {t p q r : List Int} (hr : Bytes 10 r) {x : Nat} {o : List Int} (ho : Bytes 100 o) : ∀ {y}, Bytes 100 (isoIn t p q r x o y)
  | 0 => ho
  | y + 1 => bytes_put (isoIn_bytes hr ho (y := y)) (hr.rng _).1 (hr.rng _).2
theorem bytes_zero {k : Nat} : Bytes k (List.replicate k 0) := ⟨by simp, fun i => by rw [getD_rep0]; exact ⟨by decide, by decide⟩⟩
theorem isoT_bytes {N : Nat} {t p q r : List Int} (hr : Bytes 10 r) : ∀ {x}, Bytes 100 (isoT N t p q r x)
  | 0 => bytes_zero
  | x + 1 => isoIn_bytes hr (isoT_bytes hr)
theorem isoIn_other {t p q r : List Int} {x : Nat} {o : List Int} (ho : o.length = 100) (hp : pl p x < 10) {a b : Nat} (hb : b < 10) : ∀ {y}, (∀ j, j < y → pl q j < 10) → (a ≠ pl p x ∨ ∀ j, j < y → pl q j ≠ b) → (isoIn t p q r x o y).getD (a * 10 + b) 0 = o.getD (a * 10 + b) 0
  | 0, _, _ => rfl
  | y + 1, hq, h => by
    have h1 := hq y (by omega)
    rw [isoIn, getD_set_int (by rw [isoIn_len, ho]; omega), if_neg, isoIn_other ho hp hb (fun j hj => hq j (by omega)) (h.imp id fun h j hj => h j (by omega))]
    intro e
    have e1 : pl p x = a := by omega
    have e2 : pl q y = b := by omega
    rcases h with h | h
    · exact h e1.symm
    · exact h y (by omega) e2
theorem isoIn_cell {t p q r : List Int} {x : Nat} {o : List Int} (ho : o.length = 100) (hp : pl p x < 10) : ∀ {y}, (∀ j, j < y → pl q j < 10) → (∀ i j, i < y → j < y → pl q i = pl q j → i = j) → ∀ {b}, b < y → (isoIn t p q r x o y).getD (pl p x * 10 + pl q b) 0 = r.getD (cl t x b) 0
  | 0, _, _, b, h => by omega
  | y + 1, hq, hi, b, h => by
    have h1 := hq y (by omega)
    rw [isoIn, getD_set_int (by rw [isoIn_len, ho]; omega)]
    by_cases e : b = y
    · subst e; rw [if_pos (by omega), Nat.zero_add, Nat.mul_one]
    · have hb := hq b (by omega)
      rw [if_neg, isoIn_cell ho hp (fun j hj => hq j (by omega)) (fun i j h1 h2 => hi i j (by omega) (by omega)) (by omega)]
      intro e2
      exact e (hi b y (by omega) (by omega) (by omega))
theorem isoT_other {N : Nat} {t p q r : List Int} (hN : N ≤ 10) (hp : ∀ i, i < N → pl p i < 10) (hq : ∀ i, i < N → pl q i < 10) {a b : Nat} (hb : b < 10) : ∀ {x}, x ≤ N → ((∀ i, i < x → pl p i ≠ a) ∨ ∀ j, j < N → pl q j ≠ b) → (isoT N t p q r x).getD (a * 10 + b) 0 = 0
  | 0, _, _ => by simp only [isoT]; exact getD_rep0
  | x + 1, hx, h => by
    rw [isoT, isoIn_other (isoT_len _) (hp x (by omega)) hb (fun j hj => hq j hj), isoT_other hN hp hq hb (by omega) (h.imp (fun h i hi => h i (by omega)) id)]
    rcases h with h | h
    · exact .inl fun e => h x (by omega) e.symm
    · exact .inr h
theorem isoT_cell {N : Nat} {t p q r : List Int} (hN : N ≤ 10) (hp : ∀ i, i < N → pl p i < 10) (hq : ∀ i, i < N → pl q i < 10) (ip : ∀ i j, i < N → j < N → pl p i = pl p j → i = j) (iq : ∀ i j, i < N → j < N → pl q i = pl q j → i = j) {a b : Nat} (hb : b < N) : ∀ {x}, x ≤ N → a < x → (isoT N t p q r x).getD (pl p a * 10 + pl q b) 0 = r.getD (cl t a b) 0
  | 0, _, h => by omega
  | x + 1, hx, h => by
    rw [isoT]
    by_cases e : a = x
    · subst e; exact isoIn_cell (isoT_len _) (hp a (by omega)) (fun j hj => hq j hj) iq hb
    · rw [isoIn_other (isoT_len _) (hp x (by omega)) (hq b hb) (fun j hj => hq j hj) (.inl fun e2 => e (ip a x (by omega) (by omega) e2)), isoT_cell hN hp hq ip iq hb (by omega) (by omega)]
theorem permP_f {N : Nat} {p : List Int} (h : PermP N p) : PermF N (pl p) := by have := h.2.2; rwa [Int.toNat_natCast] at this
theorem permP_le {N : Nat} {p : List Int} (h : PermP N p) : N ≤ 10 := by have := h.2.1; omega
theorem permP_pos {N : Nat} {p : List Int} (h : PermP N p) : 1 ≤ N := by have := h.1; omega
theorem permF_of {N : Nat} {f : Nat → Nat} (hN : N ≤ 10) (hb : ∀ i, i < N → f i < N) (hi : ∀ i j, i < N → j < N → f i = f j → i = j) (hz : ∀ i, i < 10 → ¬ i < N → f i = 0) : PermF N f := fun i h10 => by
  unfold permAt
  split
  · rename_i h; exact ⟨hb i h, fun j hj e => by have := hi j i (by omega) h e; omega⟩
  · rename_i h; exact hz i h10 h
theorem isoT_cl {N : Nat} {t p q r : List Int} (pp : PermP N p) (pq : PermP N q) {a b : Nat} (ha : a < N) (hb : b < N) : cl (isoT N t p q r N) (pl p a) (pl q b) = pl r (cl t a b) := by
  have hN := permP_le pp
  unfold cl
  rw [isoT_cell hN (fun i hi => by have := (permP_f pp).lt hN hi; omega) (fun i hi => by have := (permP_f pq).lt hN hi; omega) (fun i j h1 h2 e => (permP_f pp).inj hN h1 h2 e) (fun i j h1 h2 e => (permP_f pq).inj hN h1 h2 e) hb (Nat.le_refl N) ha]
  rfl
theorem isoT_out {N : Nat} {t p q r : List Int} (pp : PermP N p) (pq : PermP N q) {a b : Nat} (hb : b < 10) (h : ¬(a < N ∧ b < N)) : cl (isoT N t p q r N) a b = 0 := by
  have hN := permP_le pp
  unfold cl
  rw [isoT_other hN (fun i hi => by have := (permP_f pp).lt hN hi; omega) (fun i hi => by have := (permP_f pq).lt hN hi; omega) hb (Nat.le_refl N)]
  · rfl
  · by_cases ha : a < N
    · exact .inr fun j hj e => h ⟨ha, by have := (permP_f pq).lt hN hj; omega⟩
    · exact .inl fun i hi e => ha (by have := (permP_f pp).lt hN hi; omega)
theorem isoT_sq {N : Nat} {t p q r : List Int} (hs : SqP N t) (pp : PermP N p) (pq : PermP N q) (pr : PermP N r) : SqP N (isoT N t p q r N) := by
  have hN := permP_le pp
  rw [SqP_iff]
  refine ⟨pp.1, pp.2.1, fun i hi => ⟨?_, ?_⟩, fun i h10 hi j hj => ⟨isoT_out pp pq hj fun h => hi (by simpa using h.1), isoT_out pp pq h10 fun h => hi (by simpa using h.2)⟩⟩
  · rw [Int.toNat_natCast] at hi ⊢
    obtain ⟨x, hx, rfl⟩ := (permP_f pp).surj hN hi
    refine permF_of hN (fun j hj => ?_) (fun j k hj hk e => ?_) (fun j h10 hj => isoT_out pp pq h10 fun h => hj h.2)
    · obtain ⟨y, hy, rfl⟩ := (permP_f pq).surj hN hj
      rw [isoT_cl pp pq hx hy]
      exact (permP_f pr).lt hN (hs.cl_lt hx hy)
    · obtain ⟨y, hy, rfl⟩ := (permP_f pq).surj hN hj
      obtain ⟨z, hz, rfl⟩ := (permP_f pq).surj hN hk
      rw [isoT_cl pp pq hx hy, isoT_cl pp pq hx hz] at e
      rw [(hs.rowP hx).inj hN hy hz ((permP_f pr).inj hN (hs.cl_lt hx hy) (hs.cl_lt hx hz) e)]
  · rw [Int.toNat_natCast] at hi ⊢
    obtain ⟨y, hy, rfl⟩ := (permP_f pq).surj hN hi
    refine permF_of hN (fun j hj => ?_) (fun j k hj hk e => ?_) (fun j h10 hj => isoT_out pp pq (by have := (permP_f pq).lt hN hy; omega) fun h => hj h.1)
    · obtain ⟨x, hx, rfl⟩ := (permP_f pp).surj hN hj
      rw [isoT_cl pp pq hx hy]
      exact (permP_f pr).lt hN (hs.cl_lt hx hy)
    · obtain ⟨x, hx, rfl⟩ := (permP_f pp).surj hN hj
      obtain ⟨z, hz, rfl⟩ := (permP_f pp).surj hN hk
      rw [isoT_cl pp pq hx hy, isoT_cl pp pq hz hy] at e
      rw [(hs.colP hy).inj hN hx hz ((permP_f pr).inj hN (hs.cl_lt hx hy) (hs.cl_lt hz hy) e)]
/-! ### the least of many tables -/
/-- b' is b or one of S, and none of them is less. -/
def Least (S : List Int → Prop) (b b' : List Int) : Prop := (b' = b ∨ S b') ∧ cmpR b' b ≤ 0 ∧ ∀ u, S u → cmpR b' u ≤ 0
theorem Least.nil {S : List Int → Prop} {b : List Int} (h : ∀ u, ¬ S u) : Least S b b := ⟨.inl rfl, by rw [cmpR_self]; decide, fun u hu => absurd hu (h u)⟩
theorem Least.trans {S S' S2 : List Int → Prop} {a b c : List Int} (h1 : Least S a b) (h2 : Least S' b c) (hS : ∀ u, S2 u ↔ S u ∨ S' u) : Least S2 a c := by
  refine ⟨?_, cmpR_trans h2.2.1 h1.2.1, fun u hu => ?_⟩
  · rcases h2.1 with rfl | h
    · rcases h1.1 with rfl | h
      · exact .inl rfl
      · exact .inr ((hS _).2 (.inl h))
    · exact .inr ((hS _).2 (.inr h))
  · rcases (hS u).1 hu with h | h
    · exact cmpR_trans h2.2.1 (h1.2.2 u h)
    · exact h2.2.2 u h
theorem Least.congr {S S' : List Int → Prop} {a b : List Int} (h : Least S a b) (hS : ∀ u, S' u ↔ S u) : Least S' a b :=
  ⟨h.1.imp id fun h => (hS _).2 h, h.2.1, fun u hu => h.2.2 u ((hS u).1 hu)⟩
theorem Least.one {u b : List Int} : Least (fun v => v = u) b (if cmpR u b < 0 then u else b) := by
  split
  · rename_i h; exact ⟨.inr rfl, by omega, fun v hv => by subst hv; rw [cmpR_self]; decide⟩
  · rename_i h
    refine ⟨.inl rfl, by rw [cmpR_self]; decide, fun v hv => ?_⟩
    subst hv
    rw [cmpR_neg v b]
    omega
theorem Least.unique {S : List Int → Prop} {b c d : List Int} (h1 : Least S b c) (h2 : Least S b d) : c = d := by
  refine cmpR_anti ?_ ?_
  · rcases h2.1 with rfl | h
    · exact h1.2.1
    · exact h1.2.2 d h
  · rcases h1.1 with rfl | h
    · exact h2.2.1
    · exact h2.2.2 c h
/-- The tables that renamings make of t, by those that are p ahead of k. -/
def extS (N : Nat) (t p : List Int) (k : Nat) (u : List Int) : Prop := ∃ s, Bytes 10 s ∧ PermP N s ∧ (∀ j, j < k → pl s j = pl p j) ∧ u = isoT N t s s s N
open Classical in
noncomputable def canT (N : Nat) (t : List Int) : List Int := epsilon (Least (extS N t (idL N) 1) t)
theorem canT_eq {N : Nat} {t b : List Int} (h : Least (extS N t (idL N) 1) t b) : canT N t = b := Least.unique (Classical.epsilon_spec ⟨b, h⟩) h
theorem extS_all {N : Nat} {t p : List Int} (hp : Bytes 10 p) (pp : PermP N p) (u : List Int) : extS N t p N u ↔ u = isoT N t p p p N := by
  constructor
  · rintro ⟨s, hs, ps, he, rfl⟩
    have e : s = p := places_ext hs hp fun a ha => by
      by_cases h : a < N
      · exact he a h
      · rw [(permP_f ps).zero ha h, (permP_f pp).zero ha h]
    rw [e]
  · rintro rfl
    exact ⟨p, hp, pp, fun _ _ => rfl, rfl⟩

end Go.Proofs.Ytgblnnodoabdeaa

/-
Contracts of functions of the given program, by the abstract walk.
-/
import Derived.Test.YtoccbgffekhcaaaAbsY
import Derived.Test.YtoccbgffekhcaaaCc
namespace Go.Proofs.Ytoccbgffekhcaaa
open Go Go.Abs
set_option linter.unusedVariables false
set_option linter.unusedSectionVars false
set_option linter.unusedSimpArgs false
set_option maxRecDepth 100000
/-! triple systems: plain -/
def thU (th : Nat → Nat → Int) (a b : Nat) (z : Int) : Nat → Nat → Int := fun i j => if i = a ∧ j = b then z else th i j
def tr3 (xs : List Int) (i : Nat) : Nat := (xs.getD i 0).toNat
def lex3 (p t : List Int) : Prop := p.getD 0 0 < t.getD 0 0 ∨ (p.getD 0 0 = t.getD 0 0 ∧ (p.getD 1 0 < t.getD 1 0 ∨ (p.getD 1 0 = t.getD 1 0 ∧ p.getD 2 0 < t.getD 2 0)))
instance (p t : List Int) : Decidable (lex3 p t) := by unfold lex3; infer_instance
def okP (v : Int) (p t : List Int) (i : Nat) : Prop := t.length = 3 ∧ 0 ≤ t.getD 0 0 ∧ t.getD 0 0 < t.getD 1 0 ∧ t.getD 1 0 < t.getD 2 0 ∧ t.getD 2 0 < v ∧ (0 < i → lex3 p t)
instance (v : Int) (p t : List Int) (i : Nat) : Decidable (okP v p t i) := by unfold okP; infer_instance
def okT (v : Int) (LL : List (List Int)) (i : Nat) : Bool := decide (okP v (at_ LL (i - 1)) (at_ LL i) i)
def freeT (th : Nat → Nat → Int) (a b c : Nat) : Bool := decide (th a b < 0 ∧ th a c < 0 ∧ th b c < 0)
def put6 (th : Nat → Nat → Int) (a b c : Nat) : Nat → Nat → Int := thU (thU (thU (thU (thU (thU th a b c) a c b) b a c) b c a) c a b) c b a
def stT (v : Int) (LL : List (List Int)) : Nat → Option (Nat → Nat → Int)
  | 0 => some fun _ _ => -1
  | i + 1 => match stT v LL i with
    | none => none
    | some th => if okT v LL i && freeT th (tr3 (at_ LL i) 0) (tr3 (at_ LL i) 1) (tr3 (at_ LL i) 2) then some (put6 th (tr3 (at_ LL i) 0) (tr3 (at_ LL i) 1) (tr3 (at_ LL i) 2)) else none
theorem stT_none {v : Int} {LL : List (List Int)} {i : Nat} : ∀ {j}, stT v LL i = none → i ≤ j → stT v LL j = none
  | 0, h, hj => by obtain rfl : i = 0 := by omega
                   exact h
  | j + 1, h, hj => by
    by_cases e : i = j + 1
    · subst e; exact h
    · have := stT_none (j := j) h (by omega)
      unfold stT; rw [this]
theorem stT_next {v : Int} {LL : List (List Int)} {i : Nat} {th : Nat → Nat → Int} (h : stT v LL i = some th) (h1 : okT v LL i = true) (h2 : freeT th (tr3 (at_ LL i) 0) (tr3 (at_ LL i) 1) (tr3 (at_ LL i) 2) = true) :
    stT v LL (i + 1) = some (put6 th (tr3 (at_ LL i) 0) (tr3 (at_ LL i) 1) (tr3 (at_ LL i) 2)) := by
  rw [stT, h]; simp only [h1, h2]; rfl
theorem stT_stop {v : Int} {LL : List (List Int)} {i : Nat} {th : Nat → Nat → Int} (h : stT v LL i = some th) (h1 : (okT v LL i && freeT th (tr3 (at_ LL i) 0) (tr3 (at_ LL i) 1) (tr3 (at_ LL i) 2)) = false) : stT v LL (i + 1) = none := by
  rw [stT, h]; simp only [h1]; rfl
theorem okT_iff {v : Int} {LL : List (List Int)} {i : Nat} : okT v LL i = true ↔ okP v (at_ LL (i - 1)) (at_ LL i) i := by unfold okT; exact decide_eq_true_iff
/-- the points of a triple -/
theorem okP_pts {v : Int} {p t : List Int} {i : Nat} (hv : v ≤ 9) (h : okP v p t i) : tr3 t 0 < tr3 t 1 ∧ tr3 t 1 < tr3 t 2 ∧ tr3 t 2 < 9 ∧ (tr3 t 2 : Int) < v ∧ ∀ j, j < 3 → t.getD j 0 = ((tr3 t j : Nat) : Int) := by
  obtain ⟨h1, h2, h3, h4, h5, _⟩ := h
  unfold tr3
  refine ⟨by omega, by omega, by omega, by omega, fun j hj => ?_⟩
  match j, hj with
  | 0, _ => omega
  | 1, _ => omega
  | 2, _ => omega
structure TI (v : Int) (th : Nat → Nat → Int) : Prop where
  sym : ∀ i j, th i j = th j i
  diag : ∀ i, th i i < 0
  lo : ∀ i j, -1 ≤ th i j
  hi : ∀ i j, th i j < v ∨ th i j < 0
theorem put6_get {th : Nat → Nat → Int} {a b c i j : Nat} (h1 : a < b) (h2 : b < c) : put6 th a b c i j = if (i = a ∧ j = b) ∨ (i = b ∧ j = a) then (c : Int) else if (i = a ∧ j = c) ∨ (i = c ∧ j = a) then (b : Int) else if (i = b ∧ j = c) ∨ (i = c ∧ j = b) then (a : Int) else th i j := by
  unfold put6 thU
  repeat' split
  all_goals first | rfl | omega
theorem TI.put {v : Int} {th : Nat → Nat → Int} {a b c : Nat} (h : TI v th) (h1 : a < b) (h2 : b < c) (h3 : (c : Int) < v) : TI v (put6 th a b c) := by
  refine ⟨fun i j => ?_, fun i => ?_, fun i j => ?_, fun i j => ?_⟩
  · rw [put6_get h1 h2, put6_get h1 h2, h.sym i j]
    repeat' split
    all_goals first | rfl | omega
  · rw [put6_get h1 h2]
    have := h.diag i
    repeat' split
    all_goals omega
  · rw [put6_get h1 h2]
    have := h.lo i j
    repeat' split
    all_goals omega
  · rw [put6_get h1 h2]
    have := h.hi i j
    repeat' split
    all_goals omega
theorem stT_TI {v : Int} {LL : List (List Int)} (hv : v ≤ 9) : ∀ {i th}, stT v LL i = some th → TI v th
  | 0, th, h => by
    simp only [stT, Option.some.injEq] at h
    subst h
    exact ⟨fun _ _ => rfl, fun _ => by decide, fun _ _ => by decide, fun _ _ => .inr (by decide)⟩
  | i + 1, th, h => by
    unfold stT at h
    cases hi : stT v LL i with
    | none => rw [hi] at h; cases h
    | some th0 =>
      rw [hi] at h
      simp only at h
      split at h
      · rename_i hc
        simp only [Bool.and_eq_true] at hc
        obtain ⟨p1, p2, _, p4, _⟩ := okP_pts hv (okT_iff.1 hc.1)
        simp only [Option.some.injEq] at h
        subst h
        exact (stT_TI hv hi).put p1 p2 p4
      · cases h
/-! how many pairs -/
def cntI (p : Nat → Bool) : Nat → Nat
  | 0 => 0
  | n + 1 => cntI p n + (if p n then 1 else 0)
theorem cntI_upd {p q : Nat → Bool} {x : Nat} (h : ∀ i, i ≠ x → q i = p i) (h1 : p x = false) (h2 : q x = true) : ∀ {n}, cntI q n = cntI p n + (if x < n then 1 else 0)
  | 0 => by simp [cntI]
  | n + 1 => by
    have ih := cntI_upd h h1 h2 (n := n)
    have e1 : cntI q (n + 1) = cntI q n + (if q n then 1 else 0) := rfl
    have e2 : cntI p (n + 1) = cntI p n + (if p n then 1 else 0) := rfl
    rw [e1, e2, ih]
    by_cases e : x = n
    · subst e; simp [h1, h2]
    · rw [h n (fun e' => e e'.symm)]
      by_cases hx : x < n
      · simp only [hx, show x < n + 1 by omega, if_true]; omega
      · simp only [hx, show ¬ x < n + 1 by omega, if_false]; omega
theorem cntI_le {p : Nat → Bool} {z : Nat → Bool} (h : ∀ i, p i = true → z i = true) : ∀ {n}, cntI p n ≤ cntI z n
  | 0 => Nat.le_refl _
  | n + 1 => by
    have := cntI_le h (n := n)
    unfold cntI
    by_cases e : p n = true
    · rw [if_pos e, if_pos (h n e)]; omega
    · rw [if_neg e]; omega
def cellB (th : Nat → Nat → Int) (p : Nat) : Bool := decide (0 ≤ th (p / 9) (p % 9))
theorem at9 {a b : Nat} (hb : b < 9) : (a * 9 + b) / 9 = a ∧ (a * 9 + b) % 9 = b := by omega
theorem cnt_thU {th : Nat → Nat → Int} {a b : Nat} {z : Int} (ha : a < 9) (hb : b < 9) (h : th a b < 0) (hz : 0 ≤ z) : cntI (cellB (thU th a b z)) 81 = cntI (cellB th) 81 + 1 := by
  have hA : ∀ i, i ≠ a * 9 + b → cellB (thU th a b z) i = cellB th i := fun i hi => by
    have hn : ¬(i / 9 = a ∧ i % 9 = b) := fun e => by omega
    simp only [cellB, thU, hn, if_false]
  have hB : cellB th (a * 9 + b) = false := by
    simp only [cellB, (at9 hb).1, (at9 hb).2, decide_eq_false_iff_not]; omega
  have hC : cellB (thU th a b z) (a * 9 + b) = true := by
    simp only [cellB, thU, (at9 hb).1, (at9 hb).2, and_self, if_true, decide_eq_true_iff]; exact hz
  rw [cntI_upd hA hB hC, if_pos (by omega)]
theorem cnt_put6 {v : Int} {th : Nat → Nat → Int} {a b c : Nat} (h : TI v th) (h1 : a < b) (h2 : b < c) (h3 : c < 9) (hf : freeT th a b c = true) : cntI (cellB (put6 th a b c)) 81 = cntI (cellB th) 81 + 6 := by
  obtain ⟨f1, f2, f3⟩ := of_decide_eq_true hf
  have s1 := h.sym b a
  have s2 := h.sym c a
  have s3 := h.sym c b
  unfold put6
  rw [cnt_thU (by omega) (by omega) ?_ (by omega), cnt_thU (by omega) (by omega) ?_ (by omega), cnt_thU (by omega) (by omega) ?_ (by omega), cnt_thU (by omega) (by omega) ?_ (by omega), cnt_thU (by omega) (by omega) ?_ (by omega), cnt_thU (by omega) (by omega) f1 (by omega)]
  all_goals first
    | omega
    | (unfold thU
       repeat' split
       all_goals omega)
theorem stT_cnt {v : Int} {LL : List (List Int)} (hv : v ≤ 9) : ∀ {i th}, stT v LL i = some th → cntI (cellB th) 81 = 6 * i
  | 0, th, h => by
    simp only [stT, Option.some.injEq] at h
    subst h
    decide
  | i + 1, th, h => by
    unfold stT at h
    cases hi : stT v LL i with
    | none => rw [hi] at h; cases h
    | some th0 =>
      rw [hi] at h
      simp only at h
      split at h
      · rename_i hc
        simp only [Bool.and_eq_true] at hc
        obtain ⟨p1, p2, p3, _, _⟩ := okP_pts hv (okT_iff.1 hc.1)
        simp only [Option.some.injEq] at h
        subst h
        rw [cnt_put6 (stT_TI hv hi) p1 p2 p3 hc.2, stT_cnt hv hi]; omega
      · cases h
theorem stT_le {v : Int} {LL : List (List Int)} (hv : v ≤ 9) {i : Nat} {th : Nat → Nat → Int} (h : stT v LL i = some th) : i ≤ 12 := by
  have h1 := stT_cnt hv h
  have h2 := cntI_le (p := cellB th) (z := fun p => decide (p / 9 ≠ p % 9)) (fun p hp => by
    rw [decide_eq_true_iff]
    intro e
    have := (stT_TI hv h).diag (p % 9)
    unfold cellB at hp
    rw [decide_eq_true_iff, e] at hp
    omega) (n := 81)
  have h3 : cntI (fun p => decide (p / 9 ≠ p % 9)) 81 = 72 := by decide +kernel
  omega
/-- what both say -/
def cmplB (v : Int) (th : Nat → Nat → Int) : Bool := (List.range v.toNat).all fun a => (List.range v.toNat).all fun b => a == b || decide (0 ≤ th a b)
def thirdOk (v : Int) (LL : List (List Int)) : Bool := decide (1 ≤ v ∧ v ≤ 9) && (match stT v LL LL.length with | none => false | some th => cmplB v th)
def thirdF (v : Int) (LL : List (List Int)) : Nat → Nat → Int := match stT v LL LL.length with | none => fun _ _ => -1 | some th => th
theorem cmplB_iff {v : Int} {th : Nat → Nat → Int} : cmplB v th = true ↔ ∀ a, a < v.toNat → ∀ b, b < v.toNat → a ≠ b → 0 ≤ th a b := by
  unfold cmplB
  simp only [List.all_eq_true, List.mem_range, Bool.or_eq_true, beq_iff_eq, decide_eq_true_iff]
  constructor
  · intro h a ha b hb hne
    rcases h a ha b hb with e | e
    · exact absurd e hne
    · exact e
  · intro h a ha b hb
    by_cases e : a = b
    · exact .inl e
    · exact .inr (h a ha b hb e)
theorem thirdOk_none {v : Int} {LL : List (List Int)} {i : Nat} (h : stT v LL i = none) (hi : i ≤ LL.length) : thirdOk v LL = false := by
  unfold thirdOk; rw [stT_none h hi]; simp
theorem thirdOk_long {v : Int} {LL : List (List Int)} (hv : v ≤ 9) (h : 12 < LL.length) : thirdOk v LL = false := by
  unfold thirdOk
  cases e : stT v LL LL.length with
  | none => simp
  | some th => have := stT_le hv e; omega
theorem thirdOk_some {v : Int} {LL : List (List Int)} {th : Nat → Nat → Int} (hv : 1 ≤ v ∧ v ≤ 9) (h : stT v LL LL.length = some th) : thirdOk v LL = cmplB v th ∧ thirdF v LL = th := by
  unfold thirdOk thirdF; rw [h, decide_eq_true hv]; simp
/-! the tables as lists -/
def tl (th : Nat → Nat → Int) : List Int := (List.range 81).map fun p => th (p / 9) (p % 9)
def tob (th : Nat → Nat → Int) : List Int := (List.range 81).map fun p => if 0 ≤ th (p / 9) (p % 9) then th (p / 9) (p % 9) else 0
def tbb (th : Nat → Nat → Int) : List Bool := (List.range 81).map fun p => decide (0 ≤ th (p / 9) (p % 9))
theorem tl_len {th : Nat → Nat → Int} : (tl th).length = 81 := by simp [tl]
theorem tob_len {th : Nat → Nat → Int} : (tob th).length = 81 := by simp [tob]
theorem tbb_len {th : Nat → Nat → Int} : (tbb th).length = 81 := by simp [tbb]
theorem tl_get {th : Nat → Nat → Int} {a b : Nat} (ha : a < 9) (hb : b < 9) : (tl th).getD (a * 9 + b) 0 = th a b := by
  simp only [tl]; rw [List.getD_eq_getElem?_getD, List.getElem?_map, List.getElem?_range (by omega)]
  simp only [Option.map_some, Option.getD_some]; rw [(at9 hb).1, (at9 hb).2]
theorem tob_get {th : Nat → Nat → Int} {a b : Nat} (ha : a < 9) (hb : b < 9) : (tob th).getD (a * 9 + b) 0 = if 0 ≤ th a b then th a b else 0 := by
  simp only [tob]; rw [List.getD_eq_getElem?_getD, List.getElem?_map, List.getElem?_range (by omega)]
  simp only [Option.map_some, Option.getD_some]; rw [(at9 hb).1, (at9 hb).2]
theorem tbb_get {th : Nat → Nat → Int} {a b : Nat} (ha : a < 9) (hb : b < 9) : (tbb th).getD (a * 9 + b) false = decide (0 ≤ th a b) := by
  simp only [tbb]; rw [List.getD_eq_getElem?_getD, List.getElem?_map, List.getElem?_range (by omega)]
  simp only [Option.map_some, Option.getD_some]; rw [(at9 hb).1, (at9 hb).2]
theorem tl_set {th : Nat → Nat → Int} {a b : Nat} {z : Int} (ha : a < 9) (hb : b < 9) : (tl th).set (a * 9 + b) z = tl (thU th a b z) := by
  apply List.ext_getElem
  · simp [tl]
  · intro p h1 h2
    rw [List.getElem_set]
    simp only [tl, List.getElem_map, List.getElem_range, thU]
    split
    · rename_i e; subst e; rw [(at9 hb).1, (at9 hb).2, if_pos ⟨rfl, rfl⟩]
    · rename_i e; rw [if_neg]; intro e2; omega
theorem tob_set {th : Nat → Nat → Int} {a b : Nat} {z : Int} (ha : a < 9) (hb : b < 9) (hz : 0 ≤ z) : (tob th).set (a * 9 + b) z = tob (thU th a b z) := by
  apply List.ext_getElem
  · simp [tob]
  · intro p h1 h2
    rw [List.getElem_set]
    simp only [tob, List.getElem_map, List.getElem_range, thU]
    by_cases e : a * 9 + b = p
    · subst e; simp [hz, (at9 hb).1, (at9 hb).2]
    · rw [if_neg e, if_neg (fun e2 : p / 9 = a ∧ p % 9 = b => e (by omega))]
theorem tbb_set {th : Nat → Nat → Int} {a b : Nat} {z : Int} (ha : a < 9) (hb : b < 9) (hz : 0 ≤ z) : (tbb th).set (a * 9 + b) true = tbb (thU th a b z) := by
  apply List.ext_getElem
  · simp [tbb]
  · intro p h1 h2
    rw [List.getElem_set]
    simp only [tbb, List.getElem_map, List.getElem_range, thU]
    by_cases e : a * 9 + b = p
    · subst e; rw [if_pos rfl, (at9 hb).1, (at9 hb).2, if_pos ⟨rfl, rfl⟩, decide_eq_true hz]
    · rw [if_neg e, if_neg (fun e2 : p / 9 = a ∧ p % 9 = b => e (by omega))]
/-! the steps of the reference, pair by pair -/
def pIn (th : Nat → Nat → Int) (t : Nat → Nat) (x : Nat) : Nat → (Nat → Nat → Int)
  | 0 => th
  | y + 1 => if x = y then pIn th t x y else thU (pIn th t x y) (t x) (t y) (t (3 - x - y) : Nat)
def pOut (th : Nat → Nat → Int) (t : Nat → Nat) : Nat → (Nat → Nat → Int)
  | 0 => th
  | x + 1 => pIn (pOut th t x) t x 3
theorem pOut_put {th : Nat → Nat → Int} {t : Nat → Nat} : pOut th t 3 = put6 th (t 0) (t 1) (t 2) := by simp [pOut, pIn, put6]
theorem pIn_out {th : Nat → Nat → Int} {t : Nat → Nat} {x i j : Nat} : ∀ {y}, (i ≠ t x ∨ ∀ z, z < y → j ≠ t z) → pIn th t x y i j = th i j
  | 0, _ => rfl
  | y + 1, h => by
    have ih := pIn_out (th := th) (t := t) (x := x) (i := i) (j := j) (y := y) (h.imp id fun h z hz => h z (by omega))
    unfold pIn
    split
    · exact ih
    · unfold thU
      rw [if_neg, ih]
      rintro ⟨e1, e2⟩
      rcases h with h | h
      · exact h e1
      · exact h y (by omega) e2
theorem pOut_out {th : Nat → Nat → Int} {t : Nat → Nat} {i j : Nat} : ∀ {x}, (∀ z, z < x → i ≠ t z) → pOut th t x i j = th i j
  | 0, _ => rfl
  | x + 1, h => by rw [pOut, pIn_out (.inl (h x (by omega))), pOut_out fun z hz => h z (by omega)]
theorem stage_get {th : Nat → Nat → Int} {t : Nat → Nat} (h1 : t 0 < t 1) (h2 : t 1 < t 2) {x y : Nat} (hx : x < 3) (hy : y < 3) : pIn (pOut th t x) t x y (t x) (t y) = th (t x) (t y) := by
  have inj : ∀ a b, a < 3 → b < 3 → a ≠ b → t a ≠ t b := by
    intro a b ha hb hne
    match a, b, ha, hb with
    | 0, 0, _, _ => exact absurd rfl hne
    | 0, 1, _, _ => omega
    | 0, 2, _, _ => omega
    | 1, 0, _, _ => omega
    | 1, 1, _, _ => exact absurd rfl hne
    | 1, 2, _, _ => omega
    | 2, 0, _, _ => omega
    | 2, 1, _, _ => omega
    | 2, 2, _, _ => exact absurd rfl hne
  rw [pIn_out (.inr fun z hz => inj y z hy (by omega) (by omega)), pOut_out fun z hz => inj x z hx (by omega) (by omega)]
/-! the steps of the program -/
def qI (th : Nat → Nat → Int) (t : Nat → Nat) : Nat → (Nat → Nat → Int)
  | 0 => th
  | k + 1 => thU (thU (qI th t k) (t k) (t ((k + 1) % 3)) (t ((k + 2) % 3) : Nat)) (t ((k + 1) % 3)) (t k) (t ((k + 2) % 3) : Nat)
theorem qI_put {th : Nat → Nat → Int} {t : Nat → Nat} (h1 : t 0 < t 1) (h2 : t 1 < t 2) : qI th t 3 = put6 th (t 0) (t 1) (t 2) := by
  funext i j
  rw [put6_get h1 h2]
  simp only [qI, Nat.reduceAdd, Nat.reduceMod, thU]
  repeat' split
  all_goals first | rfl | omega
theorem qI_get {v : Int} {th : Nat → Nat → Int} {t : Nat → Nat} (h1 : t 0 < t 1) (h2 : t 1 < t 2) {k : Nat} (hk : k < 3) : qI th t k (t k) (t ((k + 1) % 3)) = th (t k) (t ((k + 1) % 3)) := by
  match k, hk with
  | 0, _ => rfl
  | 1, _ =>
    simp only [qI, Nat.reduceAdd, Nat.reduceMod, thU]
    repeat' split
    all_goals first | rfl | omega
  | 2, _ =>
    simp only [qI, Nat.reduceAdd, Nat.reduceMod, thU]
    repeat' split
    all_goals first | rfl | omega
theorem free_pairs {v : Int} {th : Nat → Nat → Int} (h : TI v th) {t : Nat → Nat} : freeT th (t 0) (t 1) (t 2) = true ↔ ∀ x y, x < 3 → y < 3 → x ≠ y → th (t x) (t y) < 0 := by
  unfold freeT
  rw [decide_eq_true_iff]
  constructor
  · rintro ⟨a, b, c⟩ x y hx hy hne
    have s1 := h.sym (t 1) (t 0)
    have s2 := h.sym (t 2) (t 0)
    have s3 := h.sym (t 2) (t 1)
    match x, y, hx, hy with
    | 0, 0, _, _ => exact absurd rfl hne
    | 0, 1, _, _ => omega
    | 0, 2, _, _ => omega
    | 1, 0, _, _ => omega
    | 1, 1, _, _ => exact absurd rfl hne
    | 1, 2, _, _ => omega
    | 2, 0, _, _ => omega
    | 2, 1, _, _ => omega
    | 2, 2, _, _ => exact absurd rfl hne
  · intro hh
    exact ⟨hh 0 1 (by omega) (by omega) (by omega), hh 0 2 (by omega) (by omega) (by omega), hh 1 2 (by omega) (by omega) (by omega)⟩
theorem free_three {v : Int} {th : Nat → Nat → Int} (h : TI v th) {t : Nat → Nat} : freeT th (t 0) (t 1) (t 2) = true ↔ ∀ k, k < 3 → th (t k) (t ((k + 1) % 3)) < 0 := by
  rw [free_pairs h]
  constructor
  · intro hh k hk
    refine hh k ((k + 1) % 3) hk (by omega) (by omega)
  · intro hh x y hx hy hne
    have a0 := hh 0 (by omega)
    have a1 := hh 1 (by omega)
    have a2 := hh 2 (by omega)
    simp only [Nat.reduceAdd, Nat.reduceMod] at a0 a1 a2
    have s1 := h.sym (t 1) (t 0)
    have s2 := h.sym (t 2) (t 0)
    have s3 := h.sym (t 2) (t 1)
    match x, y, hx, hy with
    | 0, 0, _, _ => exact absurd rfl hne
    | 0, 1, _, _ => omega
    | 0, 2, _, _ => omega
    | 1, 0, _, _ => omega
    | 1, 1, _, _ => exact absurd rfl hne
    | 1, 2, _, _ => omega
    | 2, 0, _, _ => omega
    | 2, 1, _, _ => omega
    | 2, 2, _, _ => exact absurd rfl hne

end Go.Proofs.Ytoccbgffekhcaaa

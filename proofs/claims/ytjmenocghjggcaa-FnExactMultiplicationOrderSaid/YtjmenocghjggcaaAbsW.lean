/-
Plain facts about squares, as the contracts name them.
-/
import Derived.Test.YtjmenocghjggcaaAbsQ
import Derived.ProofKit
namespace Go.Abs
open Go
set_option linter.unusedVariables false
set_option linter.unusedSectionVars false
set_option linter.unusedSimpArgs false
set_option linter.defProp false

abbrev sqS (n : Int) (t : List Int) : Segs := [(0, .ints .i64 1 [n]), (1, .ints .u8 100 t)]
abbrev plS (p : List Int) : Segs := [(0, .ints .u8 10 p)]
abbrev trS (p q r : List Int) : Segs := [(0, .ints .u8 10 p), (10, .ints .u8 10 q), (20, .ints .u8 10 r)]
abbrev tbS (t : List Int) : Segs := [(0, .ints .u8 100 t)]
def cl (t : List Int) (i j : Nat) : Nat := (t.getD (i * 10 + j) 0).toNat
def rowOk (N : Nat) (t : List Int) (x : Nat) : Prop := ∀ y, y < 10 → if x < N ∧ y < N then cl t x y < N ∧ cl t y x < N else cl t x y = 0
def full (N : Nat) (t : List Int) (x : Nat) : Prop := x < N → mask (cl t x) N = 2 ^ N - 1 ∧ mask (fun y => cl t y x) N = 2 ^ N - 1
def SqP (n : Int) (t : List Int) : Prop := 1 ≤ n ∧ n ≤ 10 ∧ ∀ x, x < 10 → rowOk n.toNat t x ∧ full n.toNat t x
structure Bytes (k : Nat) (t : List Int) : Prop where
  len : t.length = k
  rng : ∀ i, 0 ≤ t.getD i 0 ∧ t.getD i 0 < 256
theorem Bytes.cell {k : Nat} {t : List Int} (h : Bytes k t) (i j : Nat) : t.getD (i * 10 + j) 0 = (cl t i j : Int) := by
  have := (h.rng (i * 10 + j)).1
  unfold cl; omega
theorem Bytes.cell_lt {k : Nat} {t : List Int} (h : Bytes k t) (i j : Nat) : cl t i j < 256 := by
  have := (h.rng (i * 10 + j)).2
  unfold cl; omega
open Classical in
noncomputable def sqB (n : Int) (t : List Int) : Bool := decide (SqP n t)
theorem sqB_true {n : Int} {t : List Int} (h : SqP n t) : sqB n t = true := by unfold sqB; exact @decide_eq_true _ (_) h
theorem sqB_false {n : Int} {t : List Int} (h : ¬SqP n t) : sqB n t = false := by unfold sqB; exact @decide_eq_false _ (_) h

theorem ext_getD {a b : List Int} (h : a.length = b.length) (he : ∀ i, i < a.length → a.getD i 0 = b.getD i 0) : a = b := by
  apply List.ext_getElem h
  intro i h1 h2
  have := he i h1
  simpa [h1, h2] using this

theorem getD_set_int {a : List Int} {i j : Nat} {v : Int} (h : i < a.length) : (a.set i v).getD j 0 = if i = j then v else a.getD j 0 := by
  by_cases e : i = j
  · subst e; simp [h]
  · simp [e]
theorem getD_sub {a : List Int} {off k j : Nat} : ((a.drop off).take k).getD j 0 = if j < k then a.getD (off + j) 0 else 0 := by
  by_cases h : j < k
  · simp [h, List.getElem?_take]
  · simp [h, List.getElem?_take]

theorem spl_eq_int {a xs : List Int} {off : Nat} (h : off + xs.length ≤ a.length) : spl a off xs = a.take off ++ xs ++ a.drop (off + xs.length) := by
  unfold spl
  split
  · rename_i y
    rw [List.set_eq_take_append_cons_drop, if_pos (by simp at h; omega)]
    simp
  · rfl

theorem spl_length {a xs : List Int} {off : Nat} (h : off + xs.length ≤ a.length) : (spl a off xs).length = a.length := by
  rw [spl_eq_int h]; simp; omega

theorem getD_spl {a xs : List Int} {off j : Nat} (h : off + xs.length ≤ a.length) : (spl a off xs).getD j 0 = if off ≤ j ∧ j < off + xs.length then xs.getD (j - off) 0 else a.getD j 0 := by
  rw [spl_eq_int h]
  have e1 : (a.take off).length = off := by simp; omega
  simp only [List.getD_eq_getElem?_getD]
  by_cases h1 : j < off
  · rw [if_neg (by omega), List.append_assoc, List.getElem?_append_left (by omega)]
    simp [h1]
  · by_cases h2 : j < off + xs.length
    · rw [if_pos (by omega), List.append_assoc, List.getElem?_append_right (by omega), List.getElem?_append_left (by omega), e1]
    · rw [if_neg (by omega), List.getElem?_append_right (by simp only [List.length_append, e1]; omega), List.getElem?_drop]
      simp only [List.length_append, e1]
      congr 2
      omega

theorem sub_length {a : List Int} {off k : Nat} (h : off + k ≤ a.length) : ((a.drop off).take k).length = k := by
  simp; omega
end Go.Abs

/-
Plain facts about permutations, as the contracts name them.
-/
namespace Go.Abs
open Go
set_option linter.unusedVariables false
set_option linter.unusedSectionVars false
set_option linter.unusedSimpArgs false
set_option linter.defProp false

theorem surj_of_inj : ∀ (n : Nat) (f : Nat → Nat), (∀ i, i < n → f i < n) → (∀ i j, i < n → j < n → f i = f j → i = j) → ∀ y, y < n → ∃ i, i < n ∧ f i = y
  | 0, _, _, _, y, hy => absurd hy (by omega)
  | n + 1, f, hb, hi, y, hy => by
    have hm := hb n (by omega)
    have key := surj_of_inj n (fun i => if f i = n then f n else f i)
      (fun i h => by
        have h1 := hb i (by omega)
        by_cases e : f i = n
        · simp only [e, if_true]
          have : f n ≠ n := fun e2 => absurd (hi i n (by omega) (by omega) (by omega)) (by omega)
          omega
        · simp only [e, if_false]; omega)
      (fun i j h1 h2 e => by
        by_cases e1 : f i = n <;> by_cases e2 : f j = n
        · exact hi i j (by omega) (by omega) (by omega)
        · simp only [e1, e2, if_true, if_false] at e
          exact absurd (hi n j (by omega) (by omega) e) (by omega)
        · simp only [e1, e2, if_true, if_false] at e
          exact absurd (hi i n (by omega) (by omega) e) (by omega)
        · simp only [e1, e2, if_false] at e
          exact hi i j (by omega) (by omega) e)
    by_cases hyn : y = f n
    · exact ⟨n, by omega, hyn.symm⟩
    · by_cases hy2 : y = n
      · subst hy2
        obtain ⟨i, h1, h2⟩ := key (f y) (by omega)
        by_cases e : f i = y
        · exact ⟨i, by omega, e⟩
        · simp only [e, if_false] at h2
          exact absurd (hi i y (by omega) (by omega) h2) (by omega)
      · obtain ⟨i, h1, h2⟩ := key y (by omega)
        by_cases e : f i = n
        · simp only [e, if_true] at h2; exact absurd h2.symm hyn
        · simp only [e, if_false] at h2; exact ⟨i, by omega, h2⟩

theorem inj_of_surj (n : Nat) (f : Nat → Nat) (hs : ∀ y, y < n → ∃ i, i < n ∧ f i = y) : ∀ i j, i < n → j < n → f i = f j → i = j := by
  have hc : ∀ y, ∃ i, y < n → i < n ∧ f i = y := fun y => by
    by_cases h : y < n
    · obtain ⟨i, hi⟩ := hs y h; exact ⟨i, fun _ => hi⟩
    · exact ⟨0, fun h' => absurd h' h⟩
  obtain ⟨g, hg⟩ := Classical.axiomOfChoice hc
  have hsg := surj_of_inj n g (fun i h => (hg i h).1) (fun i j h1 h2 e => by rw [← (hg i h1).2, ← (hg j h2).2, e])
  intro i j hi hj e
  obtain ⟨a, ha, rfl⟩ := hsg i hi
  obtain ⟨b, hb, rfl⟩ := hsg j hj
  rw [(hg a ha).2, (hg b hb).2] at e
  rw [e]

theorem mask_full {n : Nat} {f : Nat → Nat} (hb : ∀ i, i < n → f i < n) : mask f n = 2 ^ n - 1 ↔ ∀ i, i < n → ∀ j, j < i → f j ≠ f i := by
  constructor
  · intro h
    have hs : ∀ y, y < n → ∃ i, i < n ∧ f i = y := fun y hy => by
      rw [← mask_testBit (f := f), h, Nat.testBit_two_pow_sub_one]
      exact decide_eq_true hy
    intro i hi j hj e
    exact absurd (inj_of_surj n f hs j i (by omega) hi e) (by omega)
  · intro h
    have hi : ∀ i j, i < n → j < n → f i = f j → i = j := fun i j h1 h2 e => by
      rcases Nat.lt_trichotomy i j with h3 | h3 | h3
      · exact absurd e (h j h2 i h3)
      · exact h3
      · exact absurd e.symm (h i h1 j h3)
    have hs := surj_of_inj n f hb hi
    apply Nat.eq_of_testBit_eq
    intro y
    rw [Nat.testBit_two_pow_sub_one]
    by_cases hy : y < n
    · rw [mask_testBit.2 (hs y hy)]; exact (decide_eq_true hy).symm
    · rw [decide_eq_false hy]
      rw [Bool.eq_false_iff]
      intro ht
      obtain ⟨j, hj, e⟩ := mask_testBit.1 ht
      have := hb j hj
      omega

def pl (p : List Int) (i : Nat) : Nat := (p.getD i 0).toNat
theorem Bytes.place {k : Nat} {p : List Int} (h : Bytes k p) (i : Nat) : p.getD i 0 = (pl p i : Int) := by
  have := (h.rng i).1
  unfold Abs.pl; omega
theorem Bytes.place_lt {k : Nat} {p : List Int} (h : Bytes k p) (i : Nat) : pl p i < 256 := by
  have := (h.rng i).2
  unfold Abs.pl; omega

def permAt (N : Nat) (f : Nat → Nat) (i : Nat) : Prop := if i < N then f i < N ∧ ∀ j, j < i → f j ≠ f i else f i = 0
def PermF (N : Nat) (f : Nat → Nat) : Prop := ∀ i, i < 10 → permAt N f i
def PermP (n : Int) (p : List Int) : Prop := 1 ≤ n ∧ n ≤ 10 ∧ PermF n.toNat (pl p)
open Classical in
noncomputable def permB (n : Int) (p : List Int) : Bool := decide (PermP n p)
theorem permB_true {n : Int} {t : List Int} (h : PermP n t) : permB n t = true := by unfold permB; exact @decide_eq_true _ (_) h
theorem permB_false {n : Int} {t : List Int} (h : ¬PermP n t) : permB n t = false := by unfold permB; exact @decide_eq_false _ (_) h
theorem permB_iff {n : Int} {t : List Int} : permB n t = true ↔ PermP n t := by unfold permB; exact @decide_eq_true_iff _ (_)
theorem sqB_iff {n : Int} {t : List Int} : sqB n t = true ↔ SqP n t := by unfold sqB; exact @decide_eq_true_iff _ (_)

theorem getD_repf {n j : Nat} : (List.replicate n false).getD j false = false := by
  by_cases h : j < n <;> simp [h, List.getElem?_replicate]
theorem getD_rep0 {n j : Nat} : (List.replicate n (0 : Int)).getD j 0 = 0 := by
  by_cases h : j < n <;> simp [h, List.getElem?_replicate]
theorem getD_setb {a : List Bool} {i j : Nat} {v : Bool} (h : i < a.length) : (a.set i v).getD j false = if i = j then v else a.getD j false := by
  by_cases e : i = j
  · subst e; simp [h]
  · simp [e]

/-- A square is one whose rows and columns are permutations, and whose other cells are 0. -/
theorem SqP_iff {n : Int} {t : List Int} : SqP n t ↔ 1 ≤ n ∧ n ≤ 10 ∧ (∀ x, x < n.toNat → PermF n.toNat (cl t x) ∧ PermF n.toNat (fun y => cl t y x)) ∧ ∀ x, x < 10 → ¬ x < n.toNat → ∀ y, y < 10 → cl t x y = 0 ∧ cl t y x = 0 := by
  unfold SqP
  refine and_congr_right fun h1 => and_congr_right fun h2 => ?_
  have hN : n.toNat ≤ 10 := by omega
  generalize n.toNat = N at hN
  constructor
  · intro h
    refine ⟨fun x hx => ⟨fun y hy => ?_, fun y hy => ?_⟩, fun x hx hxn y hy => ⟨?_, ?_⟩⟩
    · have hr := (h x (by omega)).1
      have hf := ((h x (by omega)).2 hx).1
      unfold permAt
      have := hr y hy
      by_cases hyn : y < N
      · rw [if_pos ⟨hx, hyn⟩] at this
        rw [if_pos hyn]
        exact ⟨this.1, (mask_full fun i hi => by have := hr i (by omega); rw [if_pos ⟨hx, hi⟩] at this; exact this.1).1 hf y hyn⟩
      · rw [if_neg (by omega)] at this
        rw [if_neg hyn]; exact this
    · have hr := (h x (by omega)).1
      have hf := ((h x (by omega)).2 hx).2
      unfold permAt
      by_cases hyn : y < N
      · have := hr y hy
        rw [if_pos ⟨hx, hyn⟩] at this
        rw [if_pos hyn]
        exact ⟨this.2, (mask_full (f := fun y => cl t y x) fun i hi => by have := hr i (by omega); rw [if_pos ⟨hx, hi⟩] at this; exact this.2).1 hf y hyn⟩
      · rw [if_neg hyn]
        have := (h y hy).1 x (by omega)
        rw [if_neg (by omega)] at this; exact this
    · have := (h x hx).1 y hy
      rw [if_neg (by omega)] at this; exact this
    · have := (h y hy).1 x hx
      rw [if_neg (by omega)] at this; exact this
  · rintro ⟨ha, hb⟩ x hx
    refine ⟨fun y hy => ?_, fun hxn => ⟨?_, ?_⟩⟩
    · by_cases hc : x < N ∧ y < N
      · rw [if_pos hc]
        have h3 := (ha x hc.1).1 y hy
        have h4 := (ha x hc.1).2 y hy
        unfold permAt at h3 h4
        rw [if_pos hc.2] at h3 h4
        exact ⟨h3.1, h4.1⟩
      · rw [if_neg hc]
        by_cases hxn : x < N
        · have h3 := (ha x hxn).1 y hy
          unfold permAt at h3
          rw [if_neg (by omega)] at h3; exact h3
        · exact (hb x hx hxn y hy).1
    · refine (mask_full fun i hi => ?_).2 fun i hi => ?_
      · have h3 := (ha x hxn).1 i (by omega)
        unfold permAt at h3
        rw [if_pos hi] at h3; exact h3.1
      · have h3 := (ha x hxn).1 i (by omega)
        unfold permAt at h3
        rw [if_pos hi] at h3; exact h3.2
    · refine (mask_full (f := fun y => cl t y x) fun i hi => ?_).2 fun i hi => ?_
      · have h3 := (ha x hxn).2 i (by omega)
        unfold permAt at h3
        rw [if_pos hi] at h3; exact h3.1
      · have h3 := (ha x hxn).2 i (by omega)
        unfold permAt at h3
        rw [if_pos hi] at h3; exact h3.2
end Go.Abs

/-
From a statement's row to the abstract walk: the arguments are opened, the call's contract is met, the row is shut.
-/
namespace Go.Abs
open Go
set_option linter.unusedVariables false
set_option linter.unusedSectionVars false
set_option linter.unusedSimpArgs false
set_option linter.defProp false

def rho0 : Rho := fun _ _ => none

theorem law_calls {P : Program} {f : FuncId} {vs : List AV} {vals : List Value} (h : ACalls P f vs [] (fun v ms ns => v = .b true ∧ ms = [] ∧ ns = [])) (hv : RelVs rho0 vs vals) (W : World) :
    Calls P f vals.toArray W fun e W' => e = .returned (.bool true) ∧ Kept (fun _ => False) W W' := by
  have hm : MemRel rho0 (fun _ => False) (getArgs []) W := by
    refine ⟨fun a k rw gs hg => ?_, fun a k a' k' gs gs' p p' hg => ?_, fun a k p hp => (by cases hp), fun a k rw gs _ hg => ?_⟩
    all_goals (unfold getArgs at hg; split at hg <;> simp at hg)
  refine (h.2 rho0 (fun _ => False) W vals (fun _ _ _ => rfl) (fun b hb => hb.elim) hm hv).mono ?_
  rintro e w' ⟨r, xs, ns, val, ρ', rfl, ⟨rfl, rfl, rfl⟩, _, hr, _, _, _, hk⟩
  simp only [RelV] at hr
  exact ⟨by rw [hr], hk⟩

theorem Kept.but {w w' : World} (h : Kept (fun _ => False) w w') (may : MemPlace → Prop) : w.keptBut w' may := by
  refine ⟨h.os, h.out, fun i hi => ?_⟩
  rw [h.same i hi (fun x => x)]
  cases w.heap[i]? with
  | none => rfl
  | some o => cases o <;> simp

theorem flat_open {H : Type} {enc : TypeId × Value → H} {P : Program} {W : World} {base : Nat} {sp : Nat → Bool} {hd : Bool} {t : TypeId} {v : Value} {d : DataW H} {ps : List MemPlace} {l0 : List Lit} {z0 : List Value}
    (hk : P.keyTypeAt 6 t = true) (ht : P.tiled 6 t = true) (hz : P.keyLits 6 t z0 = some l0) (hg : isAggD (P.underlying t) = true)
    (hv : Value.okWide P W .any base t v) (h : DataW.Trod enc P W 0 sp hd t v d ps) :
    ∃ l : List Lit, v = .agg (l.map Lit.toCell).toArray ∧ ps = [] ∧ Alike l l0 ∧ ∀ c ∈ l, c.keyWf := by
  have hcs : ∃ cs : Array Value, v = .agg cs := by
    unfold Value.okWide at hv
    revert hg hv
    cases P.underlying t with
    | none => simp [isAggD]
    | some d => cases d <;> simp [isAggD] <;> intro a b _ _ <;> exact ⟨_, b⟩
  obtain ⟨cs, rfl⟩ := hcs
  obtain ⟨fuel, hf⟩ := h
  obtain ⟨k1, k2⟩ := keyLits_of_trod 6 t hk fuel _ _ hf
  have k3 := cells_of_lits 6 t ht 6 _ _ k1
  refine ⟨d.flat, ?_, k2, keyLits_alike k1 hz, keyLits_wf k1⟩
  simp only [Value.cells] at k3
  rw [← k3]

theorem alike_ints {q : IntKind} : ∀ {k : Nat} {l r0 : List Lit}, Alike l (List.replicate k (.int q 0) ++ r0) → ∃ (xs : List Int) (r : List Lit), xs.length = k ∧ l = xs.map (.int q) ++ r ∧ Alike r r0
  | 0, l, r0, h => ⟨[], l, rfl, rfl, by simpa using h⟩
  | k + 1, [], r0, h => by simp [List.replicate_succ, Alike] at h
  | k + 1, a :: l, r0, h => by
    rw [List.replicate_succ, List.cons_append] at h
    obtain ⟨h1, h2⟩ := h
    obtain ⟨xs, r, e1, rfl, h3⟩ := alike_ints h2
    cases a with
    | int k n =>
      simp only [Lit.sameKind] at h1
      subst h1
      exact ⟨n :: xs, r, by simp [e1], rfl, h3⟩
    | _ => simp [Lit.sameKind] at h1
theorem alike_nil {l : List Lit} (h : Alike l []) : l = [] := by
  cases l with
  | nil => rfl
  | cons a r => exact h.elim

theorem bytes_of_wf {k : Nat} {xs : List Int} (hl : xs.length = k) (h : ∀ x ∈ xs, (Lit.int .u8 x).wf = true) : Bytes k xs := by
  refine ⟨hl, fun i => ?_⟩
  by_cases hi : i < xs.length
  · have := h xs[i] (List.getElem_mem hi)
    simp [Lit.wf, IntKind.min, IntKind.max, IntKind.signed, IntKind.bits] at this
    simp [hi]; omega
  · simp [hi]

theorem toCell_ints {q : IntKind} {xs : List Int} : (xs.map (Lit.int q)).map Lit.toCell = xs.map (Value.int q) := by
  simp [Lit.toCell, Function.comp_def]

def sqLits : List Lit := List.replicate 1 (.int .i64 0) ++ (List.replicate 100 (.int .u8 0) ++ [])
def trLits : List Lit := List.replicate 10 (.int .u8 0) ++ (List.replicate 10 (.int .u8 0) ++ (List.replicate 10 (.int .u8 0) ++ []))
def plLits : List Lit := List.replicate 10 (.int .u8 0) ++ []

theorem sq_of {l : List Lit} (h : Alike l sqLits) (hw : ∀ c ∈ l, c.keyWf) : ∃ n t, Bytes 100 t ∧ (Lit.int .i64 n).wf = true ∧ RelV rho0 (.agg (sqS n t)) (.agg (l.map Lit.toCell).toArray) := by
  obtain ⟨ns, r, e1, rfl, h1⟩ := alike_ints h
  obtain ⟨t, r, e2, rfl, h2⟩ := alike_ints h1
  have := alike_nil h2
  subst this
  match ns, e1 with
  | [n], _ =>
    refine ⟨n, t, bytes_of_wf e2 fun x hx => hw (.int .u8 x) (by simp [hx]), hw (.int .i64 n) (by simp), ?_⟩
    simp only [RelV]
    refine ⟨_, rfl, ?_⟩
    refine ⟨rfl, [.int .i64 n], t.map (.int .u8), by simp [Lit.toCell, Function.comp_def], ⟨rfl, rfl⟩, rfl, t.map (.int .u8), [], by simp, ⟨e2, rfl⟩, rfl⟩
theorem tr_of {l : List Lit} (h : Alike l trLits) (hw : ∀ c ∈ l, c.keyWf) : ∃ p q r, Bytes 10 p ∧ Bytes 10 q ∧ Bytes 10 r ∧ RelV rho0 (.agg (trS p q r)) (.agg (l.map Lit.toCell).toArray) := by
  obtain ⟨p, r, e1, rfl, h1⟩ := alike_ints h
  obtain ⟨q, r, e2, rfl, h2⟩ := alike_ints h1
  obtain ⟨s, r, e3, rfl, h3⟩ := alike_ints h2
  have := alike_nil h3
  subst this
  refine ⟨p, q, s, bytes_of_wf e1 fun x hx => hw (.int .u8 x) (by simp [hx]), bytes_of_wf e2 fun x hx => hw (.int .u8 x) (by simp [hx]), bytes_of_wf e3 fun x hx => hw (.int .u8 x) (by simp [hx]), ?_⟩
  simp only [RelV]
  refine ⟨_, rfl, ?_⟩
  refine ⟨rfl, p.map (.int .u8), q.map (.int .u8) ++ s.map (.int .u8), by simp [Lit.toCell, Function.comp_def], ⟨e1, rfl⟩, rfl, q.map (.int .u8), s.map (.int .u8), rfl, ⟨e2, rfl⟩, rfl, s.map (.int .u8), [], by simp, ⟨e3, rfl⟩, rfl⟩
theorem pl_of {l : List Lit} (h : Alike l plLits) (hw : ∀ c ∈ l, c.keyWf) : ∃ p, Bytes 10 p ∧ RelV rho0 (.agg (plS p)) (.agg (l.map Lit.toCell).toArray) := by
  obtain ⟨p, r, e1, rfl, h1⟩ := alike_ints h
  have := alike_nil h1
  subst this
  refine ⟨p, bytes_of_wf e1 fun x hx => hw (.int .u8 x) (by simp [hx]), ?_⟩
  simp only [RelV]
  exact ⟨_, rfl, rfl, p.map (.int .u8), [], by simp [Lit.toCell, Function.comp_def], ⟨e1, rfl⟩, rfl⟩
end Go.Abs

/-
Plain tables, maps, sets and searches, as the contracts name them.
-/
namespace Go.Abs
open Go
set_option linter.unusedVariables false
set_option linter.unusedSectionVars false
set_option linter.unusedSimpArgs false
set_option linter.defProp false

theorem wrap_u8 {a : Int} (h1 : 0 ≤ a) (h2 : a < 256) : IntKind.u8.wrap a = a := by
  simp [IntKind.wrap, IntKind.bits, IntKind.signed]; omega
theorem wrap_u8n {a : Nat} (h2 : a < 256) : IntKind.u8.wrap (a : Int) = a := wrap_u8 (by omega) (by omega)
theorem wrap_i64n {a : Nat} (h2 : a < 2 ^ 62) : IntKind.i64.wrap (a : Int) = a := wrap_i64 (by omega) (by omega)
theorem wrap_i64s {a : Nat} (h2 : a < 2 ^ 62) : IntKind.i64.wrap ((a : Int) + 1) = ((a + 1 : Nat) : Int) := by rw [wrap_i64 (by omega) (by omega)]; omega
theorem wrap_u8s {a : Nat} (h2 : a < 255) : IntKind.u8.wrap ((a : Int) + 1) = ((a + 1 : Nat) : Int) := by rw [wrap_u8 (by omega) (by omega)]; omega

/-! ### searches -/
/-- The first place below k where f is z; k, if there is none. -/
def fnd (f : Nat → Nat) (z : Nat) : Nat → Nat
  | 0 => 0
  | k + 1 => if fnd f z k < k then fnd f z k else if f k = z then k else k + 1
theorem fnd_le {f : Nat → Nat} {z : Nat} : ∀ {k : Nat}, fnd f z k ≤ k
  | 0 => Nat.le_refl _
  | k + 1 => by
    have := fnd_le (f := f) (z := z) (k := k)
    unfold fnd; split <;> (try split) <;> omega
theorem fnd_none {f : Nat → Nat} {z : Nat} : ∀ {k : Nat} {i : Nat}, i < fnd f z k → f i ≠ z
  | 0, i, h => absurd h (by simp [fnd])
  | k + 1, i, h => by
    unfold fnd at h
    split at h
    · exact fnd_none h
    · rename_i h1
      have h2 := fnd_le (f := f) (z := z) (k := k)
      split at h
      · exact fnd_none (k := k) (by omega)
      · rename_i h3
        by_cases e : i = k
        · subst e; exact h3
        · exact fnd_none (k := k) (by omega)
theorem fnd_at {f : Nat → Nat} {z : Nat} : ∀ {k : Nat}, fnd f z k < k → f (fnd f z k) = z
  | 0, h => absurd h (by simp [fnd])
  | k + 1, h => by
    unfold fnd at h ⊢
    split
    · rename_i h1; exact fnd_at h1
    · rename_i h1
      rw [if_neg h1] at h
      split
      · rename_i h3; exact h3
      · rename_i h3; rw [if_neg h3] at h; omega
theorem fnd_lt {f : Nat → Nat} {z k i : Nat} (hi : i < k) (h : f i = z) : fnd f z k < k := by
  apply Decidable.byContradiction; intro h1
  exact fnd_none (f := f) (z := z) (k := k) (i := i) (by omega) h
theorem fnd_eq {f : Nat → Nat} {z k i : Nat} (hi : i < k) (h : f i = z) (hn : ∀ j, j < i → f j ≠ z) : fnd f z k = i := by
  have h1 := fnd_lt hi h
  have h2 := fnd_at h1
  rcases Nat.lt_trichotomy (fnd f z k) i with h3 | h3 | h3
  · exact absurd h2 (hn _ h3)
  · exact h3
  · exact absurd h (fnd_none h3)

/-! ### tables -/
def mkIn (g : Nat → Nat → Nat) (x : Nat) (o : List Int) : Nat → List Int
  | 0 => o
  | y + 1 => (mkIn g x o y).set (0 + x * 10 + y * 1) (g x y)
/-- The table whose cells before N are those of g: x rows of it. -/
def mkT (g : Nat → Nat → Nat) (N : Nat) : Nat → List Int
  | 0 => List.replicate 100 0
  | x + 1 => mkIn g x (mkT g N x) N
theorem mkIn_len {g : Nat → Nat → Nat} {x : Nat} {o : List Int} : ∀ {y}, (mkIn g x o y).length = o.length
  | 0 => rfl
  | y + 1 => by simp [mkIn, mkIn_len (y := y)]
theorem mkT_len {g : Nat → Nat → Nat} {N : Nat} : ∀ {x}, (mkT g N x).length = 100
  | 0 => by simp [mkT]
  | x + 1 => by rw [mkT, mkIn_len]; exact mkT_len
theorem mkIn_get {g : Nat → Nat → Nat} {x : Nat} {o : List Int} (ho : o.length = 100) (hx : x < 10) {a b : Nat} (hb : b < 10) : ∀ {y}, y ≤ 10 →
    (mkIn g x o y).getD (a * 10 + b) 0 = if a = x ∧ b < y then (g a b : Int) else o.getD (a * 10 + b) 0
  | 0, _ => by rw [if_neg (by omega)]; rfl
  | y + 1, hy => by
    rw [mkIn, getD_set_int (by rw [mkIn_len, ho]; omega), mkIn_get ho hx hb (by omega)]
    by_cases h1 : a = x
    · subst h1
      by_cases h2 : b = y
      · subst h2; rw [if_pos (by omega), if_pos (by omega)]
      · rw [if_neg (by omega)]
        by_cases h3 : b < y
        · rw [if_pos (by omega), if_pos (by omega)]
        · rw [if_neg (by omega), if_neg (by omega)]
    · rw [if_neg (by omega), if_neg (by omega), if_neg (by omega)]
theorem mkT_get {g : Nat → Nat → Nat} {N : Nat} (hN : N ≤ 10) {a b : Nat} (hb : b < 10) : ∀ {x}, x ≤ 10 →
    (mkT g N x).getD (a * 10 + b) 0 = if a < x ∧ b < N then (g a b : Int) else 0
  | 0, _ => by rw [if_neg (by omega), mkT]; exact getD_rep0
  | x + 1, hx => by
    rw [mkT, mkIn_get mkT_len (by omega) hb hN, mkT_get hN hb (by omega)]
    by_cases h1 : a = x
    · subst h1
      by_cases h2 : b < N
      · rw [if_pos (by omega), if_pos (by omega)]
      · rw [if_neg (by omega), if_neg (by omega), if_neg (by omega)]
    · rw [if_neg (by omega)]
      by_cases h2 : a < x ∧ b < N
      · rw [if_pos h2, if_pos (by omega)]
      · rw [if_neg h2, if_neg (by omega)]
theorem cl_mkT {g : Nat → Nat → Nat} {N : Nat} (hN : N ≤ 10) {a b : Nat} (ha : a < N) (hb : b < N) : cl (mkT g N N) a b = g a b := by
  unfold cl; rw [mkT_get hN (by omega) hN, if_pos ⟨ha, hb⟩]; rfl
theorem cl_mkT0 {g : Nat → Nat → Nat} {N : Nat} (hN : N ≤ 10) {a b : Nat} (hb : b < 10) (h : ¬(a < N ∧ b < N)) : cl (mkT g N N) a b = 0 := by
  unfold cl; rw [mkT_get hN hb hN, if_neg h]; rfl
theorem mkT_bytes {g : Nat → Nat → Nat} {N : Nat} (hN : N ≤ 10) (hg : ∀ x y, x < N → y < N → g x y < 256) : Bytes 100 (mkT g N N) := ⟨mkT_len, fun i => by
  have h : i = (i / 10) * 10 + i % 10 := by omega
  rw [h, mkT_get hN (by omega) hN]
  split
  · rename_i h1; have := hg _ _ h1.1 h1.2; omega
  · omega⟩
/-- Two tables with the same cells are the same. -/
theorem table_ext {s t : List Int} (h1 : s.length = 100) (h2 : t.length = 100) (h : ∀ a b, a < 10 → b < 10 → s.getD (a * 10 + b) 0 = t.getD (a * 10 + b) 0) : s = t :=
  ext_getD (by omega) fun i hi => by
    have e : i = (i / 10) * 10 + i % 10 := by omega
    rw [e]; exact h _ _ (by omega) (by omega)
theorem table_ext_cl {s t : List Int} (h1 : Bytes 100 s) (h2 : Bytes 100 t) (h : ∀ a b, a < 10 → b < 10 → cl s a b = cl t a b) : s = t :=
  table_ext h1.len h2.len fun a b ha hb => by rw [h1.cell, h2.cell, h a b ha hb]
theorem mkT_congr {g g' : Nat → Nat → Nat} {N : Nat} (hN : N ≤ 10) (h : ∀ x y, x < N → y < N → g x y = g' x y) : mkT g N N = mkT g' N N :=
  table_ext mkT_len mkT_len fun a b ha hb => by
    rw [mkT_get hN hb hN, mkT_get hN hb hN]
    split
    · rename_i h1; rw [h _ _ h1.1 h1.2]
    · rfl

/-! ### maps -/
def mapL (g : Nat → Nat) : Nat → List Int
  | 0 => List.replicate 10 0
  | i + 1 => (mapL g i).set (0 + i * 1) (g i)
theorem mapL_len {g : Nat → Nat} : ∀ {i}, (mapL g i).length = 10
  | 0 => by simp [mapL]
  | i + 1 => by rw [mapL, List.length_set]; exact mapL_len
theorem mapL_get {g : Nat → Nat} {j : Nat} : ∀ {n}, n ≤ 10 → (mapL g n).getD j 0 = if j < n then (g j : Int) else 0
  | 0, _ => by rw [if_neg (by omega), mapL]; exact getD_rep0
  | n + 1, h => by
    rw [mapL, getD_set_int (by rw [mapL_len]; omega), mapL_get (by omega)]
    by_cases h1 : j = n
    · subst h1; rw [if_pos (by omega), if_pos (by omega)]
    · rw [if_neg (by omega)]
      by_cases h2 : j < n
      · rw [if_pos h2, if_pos (by omega)]
      · rw [if_neg h2, if_neg (by omega)]
theorem pl_mapL {g : Nat → Nat} {N j : Nat} (hN : N ≤ 10) (h : j < N) : pl (mapL g N) j = g j := by unfold Abs.pl; rw [mapL_get hN, if_pos h]; rfl
theorem pl_mapL0 {g : Nat → Nat} {N j : Nat} (hN : N ≤ 10) (h : ¬ j < N) : pl (mapL g N) j = 0 := by unfold Abs.pl; rw [mapL_get hN, if_neg h]; rfl
theorem mapL_bytes {g : Nat → Nat} {N : Nat} (hN : N ≤ 10) (hg : ∀ x, x < N → g x < 256) : Bytes 10 (mapL g N) := ⟨mapL_len, fun i => by
  rw [mapL_get hN]
  split
  · rename_i h1; have := hg _ h1; omega
  · omega⟩
theorem mapL_congr {g g' : Nat → Nat} : ∀ {N : Nat}, (∀ x, x < N → g x = g' x) → mapL g N = mapL g' N
  | 0, _ => rfl
  | N + 1, h => by rw [mapL, mapL, mapL_congr fun x hx => h x (by omega), h N (by omega)]
theorem places_ext {s t : List Int} (h1 : Bytes 10 s) (h2 : Bytes 10 t) (h : ∀ a, a < 10 → pl s a = pl t a) : s = t :=
  ext_getD (by rw [h1.len, h2.len]) fun i hi => by rw [h1.place, h2.place, h i (by have := h1.len; omega)]

/-- The map that leads back: what is written at f i is i. -/
def bkL (f : Nat → Nat) : Nat → List Int
  | 0 => List.replicate 10 0
  | i + 1 => (bkL f i).set (0 + f i * 1) (i : Nat)
theorem bkL_len {g : Nat → Nat} : ∀ {i}, (bkL g i).length = 10
  | 0 => by simp [bkL]
  | i + 1 => by rw [bkL, List.length_set]; exact bkL_len
theorem bkL_at {f : Nat → Nat} {N : Nat} (hb : ∀ i, i < N → f i < 10) (hi : ∀ i j, i < N → j < N → f i = f j → i = j) {k : Nat} : ∀ {n}, n ≤ N → k < n → (bkL f n).getD (f k) 0 = (k : Int)
  | 0, _, h => absurd h (by omega)
  | n + 1, h, hk => by
    rw [bkL, getD_set_int (by rw [bkL_len]; have := hb n (by omega); omega)]
    by_cases e : f n = f k
    · have := hi n k (by omega) (by omega) e
      subst this; rw [if_pos (by omega)]
    · rw [if_neg (by omega)]
      have : k ≠ n := fun e2 => e (by rw [e2])
      exact bkL_at hb hi (by omega) (by omega)
theorem bkL_none {f : Nat → Nat} {z : Nat} : ∀ {n}, (∀ i, i < n → f i < 10) → (∀ i, i < n → f i ≠ z) → (bkL f n).getD z 0 = 0
  | 0, _, _ => by rw [bkL]; exact getD_rep0
  | n + 1, hb, h => by
    rw [bkL, getD_set_int (by rw [bkL_len]; have := hb n (by omega); omega), if_neg (by have := h n (by omega); omega)]
    exact bkL_none (fun i hi => hb i (by omega)) fun i hi => h i (by omega)
theorem bkL_bytes {f : Nat → Nat} : ∀ {n}, n ≤ 10 → (∀ i, i < n → f i < 10) → Bytes 10 (bkL f n)
  | 0, _, _ => ⟨by simp [bkL], fun i => by rw [bkL, getD_rep0]; omega⟩
  | n + 1, hn, hb => ⟨bkL_len, fun i => by
      have h := (bkL_bytes (f := f) (n := n) (by omega) fun i hi => hb i (by omega)).rng i
      rw [bkL, getD_set_int (by rw [bkL_len]; have := hb n (by omega); omega)]
      split <;> omega⟩

theorem bkL_congr {f g : Nat → Nat} : ∀ {N : Nat}, (∀ i, i < N → f i = g i) → bkL f N = bkL g N
  | 0, _ => rfl
  | N + 1, h => by rw [bkL, bkL, bkL_congr fun x hx => h x (by omega), h N (by omega)]

theorem PermF.lt {N : Nat} {f : Nat → Nat} (h : PermF N f) (hN : N ≤ 10) {i : Nat} (hi : i < N) : f i < N := by
  have := h i (by omega); unfold permAt at this; rw [if_pos hi] at this; exact this.1
theorem PermF.zero {N : Nat} {f : Nat → Nat} (h : PermF N f) {i : Nat} (h1 : i < 10) (hi : ¬ i < N) : f i = 0 := by
  have := h i h1; unfold permAt at this; rw [if_neg hi] at this; exact this
theorem PermF.inj {N : Nat} {f : Nat → Nat} (h : PermF N f) (hN : N ≤ 10) {i j : Nat} (hi : i < N) (hj : j < N) (e : f i = f j) : i = j := by
  have h1 := h i (by omega); unfold permAt at h1; rw [if_pos hi] at h1
  have h2 := h j (by omega); unfold permAt at h2; rw [if_pos hj] at h2
  rcases Nat.lt_trichotomy i j with h3 | h3 | h3
  · exact absurd e (h2.2 i h3)
  · exact h3
  · exact absurd e.symm (h1.2 j h3)
theorem PermF.surj {N : Nat} {f : Nat → Nat} (h : PermF N f) (hN : N ≤ 10) {z : Nat} (hz : z < N) : ∃ i, i < N ∧ f i = z :=
  surj_of_inj N f (fun _ hi => h.lt hN hi) (fun _ _ hi hj e => h.inj hN hi hj e) z hz
theorem PermF.fnd_lt {N : Nat} {f : Nat → Nat} (h : PermF N f) (hN : N ≤ 10) {z : Nat} (hz : z < N) : fnd f z N < N := by
  obtain ⟨i, hi, e⟩ := h.surj hN hz; exact Abs.fnd_lt hi e
theorem PermF.fnd_eq {N : Nat} {f : Nat → Nat} (h : PermF N f) (hN : N ≤ 10) {i : Nat} (hi : i < N) : fnd f (f i) N = i :=
  Abs.fnd_eq hi rfl fun j hj e => absurd (h.inj hN (by omega) hi e) (by omega)
theorem PermF.back {N : Nat} {f : Nat → Nat} (h : PermF N f) (hN : N ≤ 10) {z : Nat} (hz : z < N) : pl (bkL f N) z = fnd f z N := by
  obtain ⟨i, hi, e⟩ := h.surj hN hz
  subst e
  unfold Abs.pl
  rw [bkL_at (fun j hj => by have := h.lt hN hj; omega) (fun _ _ a b e => h.inj hN a b e) (Nat.le_refl N) hi, h.fnd_eq hN hi]; rfl

theorem SqP.rowP {N : Nat} {t : List Int} (h : SqP N t) {x : Nat} (hx : x < N) : PermF N (cl t x) := by
  have := (SqP_iff.1 h).2.2.1 x (by omega); rw [show (N : Int).toNat = N by omega] at this; exact this.1
theorem SqP.colP {N : Nat} {t : List Int} (h : SqP N t) {x : Nat} (hx : x < N) : PermF N (fun y => cl t y x) := by
  have := (SqP_iff.1 h).2.2.1 x (by omega); rw [show (N : Int).toNat = N by omega] at this; exact this.2
theorem SqP.le {N : Nat} {t : List Int} (h : SqP N t) : N ≤ 10 := by have := h.2.1; omega
theorem SqP.pos {N : Nat} {t : List Int} (h : SqP N t) : 1 ≤ N := by have := h.1; omega
theorem SqP.cl_lt {N : Nat} {t : List Int} (h : SqP N t) {x y : Nat} (hx : x < N) (hy : y < N) : cl t x y < N := (h.rowP hx).lt h.le hy
theorem SqP.zero {N : Nat} {t : List Int} (h : SqP N t) {x y : Nat} (h1 : x < 10) (h2 : y < 10) (hn : ¬(x < N ∧ y < N)) : cl t x y = 0 := by
  have := (h.2.2 x h1).1 y h2
  rw [if_neg (by omega)] at this; exact this

/-! ### sets as bits -/
def setM (p : Nat → Bool) : Nat → Nat
  | 0 => 0
  | k + 1 => if p k then setM p k ||| 2 ^ k else setM p k
theorem setM_lt {p : Nat → Bool} : ∀ {k}, setM p k < 2 ^ k
  | 0 => by simp [setM]
  | k + 1 => by
    have h := setM_lt (p := p) (k := k)
    have h2 : (2 : Nat) ^ k < 2 ^ (k + 1) := Nat.pow_lt_pow_right (by decide) (by omega)
    unfold setM
    split
    · exact Nat.or_lt_two_pow (by omega) h2
    · omega
theorem setM_bit {p : Nat → Bool} {i : Nat} : ∀ {k}, (setM p k).testBit i = (decide (i < k) && p i)
  | 0 => by simp [setM]
  | k + 1 => by
    unfold setM
    split
    · rename_i h
      rw [Nat.testBit_or, setM_bit, Nat.testBit_two_pow]
      by_cases e : k = i
      · subst e; simp [h]
      · have e1 : decide (i < k + 1) = decide (i < k) := by apply decide_eq_decide.2; omega
        rw [e1]; simp [e]
    · rename_i h
      rw [setM_bit]
      by_cases e : k = i
      · subst e; simp at h; simp [h]
      · have e1 : decide (i < k + 1) = decide (i < k) := by apply decide_eq_decide.2; omega
        rw [e1]
/-- The members below k as an ascending list. -/
def memL (p : Nat → Bool) : Nat → List Int
  | 0 => []
  | k + 1 => if p k then memL p k ++ [(k : Int)] else memL p k
theorem memL_len {p : Nat → Bool} : ∀ {k}, (memL p k).length ≤ k
  | 0 => by simp [memL]
  | k + 1 => by have := memL_len (p := p) (k := k); unfold memL; split <;> simp <;> omega
theorem memL_congr {p q : Nat → Bool} : ∀ {k}, (∀ i, i < k → p i = q i) → memL p k = memL q k
  | 0, _ => rfl
  | k + 1, h => by unfold memL; rw [h k (by omega), memL_congr fun i hi => h i (by omega)]
theorem memL_more {p : Nat → Bool} {n : Nat} : ∀ {k}, n ≤ k → (∀ i, n ≤ i → p i = false) → memL p k = memL p n
  | 0, h, _ => by rw [show n = 0 by omega]
  | k + 1, h, hp => by
    by_cases e : n = k + 1
    · rw [e]
    · have h2 : memL p (k + 1) = memL p k := by simp [memL, hp k (by omega)]
      rw [h2, memL_more (by omega) hp]

/-! ### calls with blocks, in a region that draws its order -/
theorem CallsX.args {P : Program} {f : FuncId} {vs vs' : List AV} {m : Mem} {K : AV → Ups → List Id → Prop} {ms' xs ns : List Blk} {r : AV} (F : List Id) (h : ACalls P f vs' ms' (fun r' xs' ns' => r' = r ∧ xs' = xs ∧ ns' = ns))
    (hn : F.Nodup) (hl : ∀ p ∈ F, m.get p.1 p.2 ≠ .dead) (hv : renVs (renIn F) vs = vs') (hm : argBlks m F = ms')
    (hK : K (renV (renOut m.next F) r) (zipUps (renOut m.next F) F xs ++ newUps (renOut m.next F) m.next 0 ns) F) : CallsX P f vs m K :=
  CallsX.intro F hn hl (by rw [hv, hm]; exact h) hK
theorem shr_bit {s x : Nat} (hs : s < 2 ^ 62) (hx : x < 64) : decide (IntKind.i64.wrap ((BitVec.ofInt IntKind.i64.bits ((s : Int).fdiv (2 ^ min x IntKind.i64.bits)) &&& BitVec.ofInt IntKind.i64.bits 1).toNat : Int) = 1) = s.testBit x := by
  have e : min x IntKind.i64.bits = x := by show min x 64 = x; omega
  have e2 : (s : Int).fdiv (2 ^ x) = ((s / 2 ^ x : Nat) : Int) := by
    rw [Int.fdiv_eq_ediv_of_nonneg _ (by have := Nat.two_pow_pos x; exact_mod_cast Nat.zero_le _)]
    norm_cast
  have l : s / 2 ^ x ≤ s := Nat.div_le_self _ _
  have e3 : (BitVec.ofInt IntKind.i64.bits ((s / 2 ^ x : Nat) : Int) &&& BitVec.ofInt IntKind.i64.bits 1).toNat = s / 2 ^ x % 2 := by
    show (BitVec.ofInt 64 ((s / 2 ^ x : Nat) : Int) &&& BitVec.ofInt 64 ((1 : Nat) : Int)).toNat = _
    rw [BitVec.ofInt_natCast, BitVec.ofInt_natCast, BitVec.toNat_and, BitVec.toNat_ofNat, BitVec.toNat_ofNat, Nat.mod_eq_of_lt (show s / 2 ^ x < 2 ^ 64 by omega)]
    exact Nat.and_one_is_mod _
  rw [e, e2, e3, Nat.testBit_eq_decide_div_mod_eq, wrap_i64n (show s / 2 ^ x % 2 < 2 ^ 62 by omega)]
  apply decide_eq_decide.2
  omega

/-! ### scalars of a row -/
theorem byte_of {n : Int} (h : (Lit.int .u8 n).wf = true) : ∃ b : Nat, n = b ∧ b < 256 := by
  simp [Lit.wf, IntKind.min, IntKind.max, IntKind.signed, IntKind.bits] at h
  exact ⟨n.toNat, by omega, by omega⟩
theorem i64_of {n : Int} (h : (Lit.int .i64 n).wf = true) : -2 ^ 63 ≤ n ∧ n < 2 ^ 63 := by
  simp [Lit.wf, IntKind.min, IntKind.max, IntKind.signed, IntKind.bits] at h
  omega
end Go.Abs

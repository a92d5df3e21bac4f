/-
Contracts of functions of the given program, by the abstract walk.
-/
import Derived.Test.YtgblnnodoabdeaaAbsY
import Derived.Test.YtgblnnodoabdeaaUl
import Derived.Test.YtgblnnodoabdeaaMb
namespace Go.Proofs.Ytgblnnodoabdeaa
open Go Go.Abs
set_option linter.unusedVariables false
set_option linter.unusedSectionVars false
set_option linter.unusedSimpArgs false
set_option maxRecDepth 100000
/-! isomorphisms: the list of all, plain; the reference's search -/
section
variable (N : Nat) (t s : List Int) (lim : Nat → Bool)
noncomputable def ismIn (rec : List Int → List (List Int) → List (List Int)) (f : List Int) (x : Nat) : Nat → List (List Int) → List (List Int)
  | 0, L => L
  | y + 1, L => if lim (ismIn rec f x y L).length then (match lexp true N N t s f x y with | some g => rec g (ismIn rec f x y L) | none => ismIn rec f x y L) else ismIn rec f x y L
def finL (f : List Int) : List Int := mapL (pl f) N
noncomputable def ism : Nat → List Int → List (List Int) → List (List Int)
  | 0, _, L => L
  | d + 1, f, L => if fnd (pl f) 255 N < N then ismIn N t s lim (ism d) f (fnd (pl f) 255 N) N L else L ++ [finL N f]
end
def ltM (most : Nat) (k : Nat) : Bool := decide (k < most)
theorem ismIn_stop {N : Nat} {t s : List Int} {lim : Nat → Bool} {rec : List Int → List (List Int) → List (List Int)} {f : List Int} {x y : Nat} {L : List (List Int)} (h : lim (ismIn N t s lim rec f x y L).length = false) : ∀ {z}, y ≤ z → ismIn N t s lim rec f x z L = ismIn N t s lim rec f x y L
  | 0, hz => by obtain rfl : y = 0 := by omega
                rfl
  | z + 1, hz => by
    by_cases e : y = z + 1
    · rw [e]
    · have ih := ismIn_stop h (z := z) (by omega)
      rw [ismIn, ih, h]; rfl
theorem ismIn_len {N : Nat} {t s : List Int} {most : Nat} {rec : List Int → List (List Int) → List (List Int)} (hr : ∀ g L, L.length < most → (rec g L).length ≤ most) {f : List Int} {x : Nat} {L : List (List Int)} (hL : L.length ≤ most) : ∀ {y}, (ismIn N t s (ltM most) rec f x y L).length ≤ most
  | 0 => hL
  | y + 1 => by
    have ih := ismIn_len (N := N) (t := t) (s := s) hr (f := f) (x := x) hL (y := y)
    rw [ismIn]
    split
    · rename_i h
      have h : (ismIn N t s (ltM most) rec f x y L).length < most := of_decide_eq_true h
      split
      · exact hr _ _ h
      · exact ih
    · exact ih
theorem ism_len {N : Nat} {t s : List Int} {most : Nat} : ∀ {d f L}, L.length < most → (ism N t s (ltM most) d f L).length ≤ most
  | 0, _, L, h => by rw [ism]; omega
  | d + 1, f, L, h => by
    rw [ism]
    split
    · exact ismIn_len (fun g L hL => ism_len hL) (by omega)
    · rw [List.length_append]; simp; omega
theorem ismIn_ge {N : Nat} {t s : List Int} {lim : Nat → Bool} {rec : List Int → List (List Int) → List (List Int)} (hr : ∀ g L, L.length ≤ (rec g L).length) {f : List Int} {x : Nat} {L : List (List Int)} : ∀ {y}, L.length ≤ (ismIn N t s lim rec f x y L).length
  | 0 => Nat.le_refl _
  | y + 1 => by
    have ih := ismIn_ge (N := N) (t := t) (s := s) (lim := lim) hr (f := f) (x := x) (L := L) (y := y)
    rw [ismIn]
    split
    · split
      · exact Nat.le_trans ih (hr _ _)
      · exact ih
    · exact ih
theorem ism_ge {N : Nat} {t s : List Int} {lim : Nat → Bool} : ∀ {d f L}, L.length ≤ (ism N t s lim d f L).length
  | 0, _, L => Nat.le_refl _
  | d + 1, f, L => by
    rw [ism]
    split
    · exact ismIn_ge fun g L => ism_ge
    · rw [List.length_append]; omega
theorem ism_ne {N : Nat} {t s : List Int} {lim : Nat → Bool} {d : Nat} {f : List Int} {L : List (List Int)} (h : L ≠ []) : ism N t s lim d f L ≠ [] := fun e => by
  have := ism_ge (N := N) (t := t) (s := s) (lim := lim) (d := d) (f := f) (L := L)
  rw [e] at this
  exact h (List.eq_nil_of_length_eq_zero (by simpa using this))
theorem lexp_used {N : Nat} {t s f : List Int} {x y : Nat} (hN : N ≤ 10) (hx : x < N) (hy : y < N) (h : pl f x = 255) (hu : usd N f y = true) : lexp true N N t s f x y = none := by
  obtain ⟨c, hc, hcb⟩ := usd_iff.1 hu
  refine lexp_none fun g h1 h2 h3 => ?_
  have k := h2 c hc (by rw [hcb]; omega)
  have := h1.inj rfl c x hc hx (by rw [k, hcb]; omega) (by rw [k, hcb, h3])
  subst this; omega
theorem fnd_free {N : Nat} {f : List Int} (h : cntL f N ≠ N) : fnd (pl f) 255 N < N := by
  apply Decidable.byContradiction; intro hn
  have hle := fnd_le (f := pl f) (z := 255) (k := N)
  exact h (cnt_full fun a ha => fnd_none (k := N) (by omega))
theorem fnd_full {N : Nat} {f : List Int} (h : cntL f N = N) : ¬ fnd (pl f) 255 N < N := fun hn => cnt_all h _ hn (fnd_at hn)
theorem le_cnt {N : Nat} {t s f g : List Int} {x y : Nat} (hN : N ≤ 10) (hx : x < N) (hy : y < N) (h : pl f x = 255) (hL : LE true N N t s f x y g) : cntL f N < cntL g N :=
  cnt_lt (x := x) (fun a ha hd => hL.ext.dm ha hd) hx h (by rw [hL.at_]; omega)
def msL (i : Nat) : List Int := (List.range 10).map fun j => if j < i then -1 else 0
theorem msL_set {i : Nat} (hi : i < 10) : (msL i).set i (-1) = msL (i + 1) := by
  refine ext_getD (by simp [msL]) fun j hj => ?_
  have hj : j < 10 := by simpa [msL] using hj
  have e : ∀ k, (msL k).getD j 0 = if j < k then -1 else 0 := fun k => by
    unfold msL; rw [List.getD_eq_getElem?_getD, List.getElem?_map, List.getElem?_range hj]; rfl
  rw [getD_set_int (by simp [msL]; exact hi), e, e]
  by_cases h : i = j
  · rw [if_pos h, if_pos (by omega)]
  · rw [if_neg h]
    by_cases h2 : j < i
    · rw [if_pos h2, if_pos (by omega)]
    · rw [if_neg h2, if_neg (by omega)]
def freeL : List Int := List.replicate 10 255
theorem free_pl : ∀ {i}, i < 10 → pl freeL i = 255 := by decide
theorem free_cnt : ∀ {k}, k ≤ 10 → cntL freeL k = 0
  | 0, _ => rfl
  | k + 1, h => by rw [cntL, free_pl (by omega), if_pos rfl, free_cnt (by omega)]
theorem free_toS : toS freeL = msL 10 := by decide
theorem free_usS {N : Nat} (hN : N ≤ 10) : usS N freeL = List.replicate 10 0 := by
  refine ext_getD (by simp [usS]) fun j hj => ?_
  have hj : j < 10 := by simpa [usS] using hj
  rw [usS_get hj, getD_rep0, if_neg]
  intro h
  obtain ⟨c, hc, e⟩ := usd_iff.1 h
  rw [free_pl (by omega)] at e
  omega
theorem free_good {ij : Bool} {N M : Nat} {t s : List Int} (hN : N ≤ 10) : PGood ij N M t s freeL :=
  ⟨⟨⟨rfl, fun i => by
      by_cases h : i < 10
      · have := free_pl h
        have e : freeL.getD i 0 = 255 := by
          unfold freeL; rw [List.getD_eq_getElem?_getD, List.getElem?_replicate, if_pos h]; rfl
        rw [e]; decide
      · have e : freeL.getD i 0 = 0 := by
          unfold freeL; rw [List.getD_eq_getElem?_getD, List.getElem?_replicate, if_neg h]; rfl
        rw [e]; decide⟩, fun i hi => .inr (free_pl (by omega)), fun i _ h => free_pl h⟩,
    fun _ a b ha _ h => absurd (free_pl (by omega)) h, fun a b ha _ h => absurd (free_pl (by omega)) h⟩
theorem l02Start_ok (N : Nat) (hN : N ≤ 10) : ACalls Try.prog 112 [] [] (fun v ms ns => v = .agg (lmS N freeL) ∧ ms = [] ∧ ns = []) := by
  refine acalls_of_body mix Try.func112 rfl fok112 (Nat.le_of_ble_eq_true rfl) ?_
  unfold abody
  simp only [absE, absL, absF, reduceCtorEq, ↓reduceIte, Nat.reduceEqDiff, Nat.reduceAdd, Nat.reduceLT, Nat.reduceMul, Nat.reduceSub, Nat.reduceLeDiff, Int.reduceLT, Int.reduceLE, Int.reduceEq, Option.isSome_some, implies_true, false_implies, Prod.mk.injEq, ne_eq, not_false_eq_true, not_true_eq_false, ge_iff_le, gt_iff_lt, Int.toNat_natCast, Int.reduceToNat, Int.cast_ofNat_Int, Int.natCast_nonneg, Try.f112]
  refine awpLoop.intro (fun i : Nat => [(0, .ref (.ptr 1 0 0 0)), (1, .ref (.ptr 3 0 0 0)), (2, .i .i64 i)]) (fun i => ⟨[], [((1, 0), .lv true ([(0, .ints .i64 10 (List.replicate 10 0)), (10, .ints .i64 10 (List.replicate 10 0)), (20, .ints .i64 1 [0])])), ((3, 0), .lv true ([(0, .ints .i64 10 (msL i)), (10, .ints .i64 10 (List.replicate 10 0)), (20, .ints .i64 1 [0])]))], 10⟩) (fun i => i ≤ 10) (fun i => 10 - i) 0 (by omega) ⟨[((1,0),(1,0)), ((3,0),(3,0))], rfl, ?_, ?_⟩ ?_
  · simp [wkEnv, lk, renV, renAt, renTo]
  · simp [wkMem, wkLoc, Mem.get, assoc, renBlk, renSegs, renSg, renTo, msL]; decide
  · intro i hi
    by_cases h : (i : Int) < 10
    · have w := wrap_i64s (show i < 2 ^ 62 by omega)
      have i11 : 0 + i * 1 + 1 ≤ 10 := by omega
      have es : (msL i).set (0 + i * 1) (-1) = msL (i + 1) := by rw [Nat.zero_add, Nat.mul_one]; exact msL_set (by omega)
      simp only [absE, absL, absF, reduceCtorEq, ↓reduceIte, Nat.reduceEqDiff, Nat.reduceAdd, Nat.reduceLT, Nat.reduceMul, Nat.reduceSub, Nat.reduceLeDiff, Int.reduceLT, Int.reduceLE, Int.reduceEq, Option.isSome_some, implies_true, false_implies, Prod.mk.injEq, ne_eq, not_false_eq_true, not_true_eq_false, ge_iff_le, gt_iff_lt, Int.toNat_natCast, Int.reduceToNat, Int.cast_ofNat_Int, Int.natCast_nonneg, h, i11, es]
      repeat first | refine And.intro (by decide +kernel) ?_ | refine And.intro (by omega) ?_
      refine LoopNext.intro (i + 1) (by omega) (by omega) ⟨[((1,0),(1,0)), ((3,0),(3,0))], rfl, ?_, ?_⟩
      · simp [wkEnv, lk, renV, renAt, renTo, w]
      · simp [wkMem, wkLoc, Mem.get, assoc, renBlk, renSegs, renSg, renTo, w]
    · obtain rfl : i = 10 := by omega
      have e : lmS N freeL = [(0, .ints .i64 10 (msL 10)), (10, .ints .i64 10 (List.replicate 10 0)), (20, .ints .i64 1 [0])] := by
        rw [lmS, free_toS, free_usS hN, free_cnt hN]; rfl
      rw [e]
      simp only [absE, absL, absF, reduceCtorEq, ↓reduceIte, Nat.reduceEqDiff, Nat.reduceAdd, Nat.reduceLT, Nat.reduceMul, Nat.reduceSub, Nat.reduceLeDiff, Int.reduceLT, Int.reduceLE, Int.reduceEq, Option.isSome_some, implies_true, false_implies, Prod.mk.injEq, ne_eq, not_false_eq_true, not_true_eq_false, ge_iff_le, gt_iff_lt, Int.toNat_natCast, Int.reduceToNat, Int.cast_ofNat_Int, Int.natCast_nonneg, h, Try.results112]
      exact ⟨[], by simp, by simp, by simp [renV, renVs, renSegs, renSg]⟩
theorem l02Places_ok (N : Nat) (f : List Int) (hN : N ≤ 10) (hf : ∀ i, i < N → pl f i < N) :
    ACalls Try.prog 154 [.agg (lmS N f), .i .i64 N] [] (fun v ms ns => v = .agg (plS (finL N f)) ∧ ms = [] ∧ ns = []) := by
  refine acalls_of_body mix Try.func154 rfl fok154 (Nat.le_of_ble_eq_true rfl) ?_
  unfold abody
  simp only [absE, absL, absF, reduceCtorEq, ↓reduceIte, Nat.reduceEqDiff, Nat.reduceAdd, Nat.reduceLT, Nat.reduceMul, Nat.reduceSub, Nat.reduceLeDiff, Int.reduceLT, Int.reduceLE, Int.reduceEq, Option.isSome_some, implies_true, false_implies, Prod.mk.injEq, ne_eq, not_false_eq_true, not_true_eq_false, ge_iff_le, gt_iff_lt, Int.toNat_natCast, Int.reduceToNat, Int.cast_ofNat_Int, Int.natCast_nonneg, Try.f154]
  refine awpLoop.intro (fun i : Nat => [(1, .i .i64 N), (2, .ref (.ptr 1 0 0 0)), (4, .ref (.ptr 2 0 0 0)), (5, .ref (.ptr 4 0 0 0)), (6, .i .i64 i)]) (fun i => ⟨[], [((1, 0), .lv true (lmS N f)), ((2, 0), .lv true (plS (List.replicate 10 0))), ((4, 0), .lv true (plS (mapL (pl f) i)))], 10⟩) (fun i => i ≤ N) (fun i => N - i) 0 (by omega) ⟨[((1,0),(1,0)), ((2,0),(2,0)), ((4,0),(4,0))], rfl, ?_, ?_⟩ ?_
  · simp [wkEnv, lk, renV, renAt, renTo, mapL]
  · simp [wkMem, wkLoc, Mem.get, assoc, renBlk, renSegs, renSg, renTo, mapL]
  · intro i hi
    by_cases h : (i : Int) < N
    · have w := wrap_i64s (show i < 2 ^ 62 by omega)
      have hv := hf i (by omega)
      have i10 : (i : Int) < 10 := by omega
      have i11 : 0 + i * 1 < 10 := by omega
      have i12 : 0 + i * 1 + 1 ≤ 10 := by omega
      have k1 : (toS f).getD (0 + i * 1) 0 = ((pl f i : Nat) : Int) := by rw [Nat.zero_add, Nat.mul_one, toS_get (by omega), if_neg (by omega)]
      have w8 := wrap_u8n (show pl f i < 256 by omega)
      have es : (mapL (pl f) i).set (0 + i * 1) ((pl f i : Nat) : Int) = mapL (pl f) (i + 1) := rfl
      simp only [absE, absL, absF, reduceCtorEq, ↓reduceIte, Nat.reduceEqDiff, Nat.reduceAdd, Nat.reduceLT, Nat.reduceMul, Nat.reduceSub, Nat.reduceLeDiff, Int.reduceLT, Int.reduceLE, Int.reduceEq, Option.isSome_some, implies_true, false_implies, Prod.mk.injEq, ne_eq, not_false_eq_true, not_true_eq_false, ge_iff_le, gt_iff_lt, Int.toNat_natCast, Int.reduceToNat, Int.cast_ofNat_Int, Int.natCast_nonneg, h, i10, i11, i12, k1, w8, es]
      repeat first | refine And.intro (by decide +kernel) ?_ | refine And.intro (by omega) ?_
      refine LoopNext.intro (i + 1) (by omega) (by omega) ⟨[((1,0),(1,0)), ((2,0),(2,0)), ((4,0),(4,0))], rfl, ?_, ?_⟩
      · simp [wkEnv, lk, renV, renAt, renTo, w]
      · simp [wkMem, wkLoc, Mem.get, assoc, renBlk, renSegs, renSg, renTo, w]
    · obtain rfl : i = N := by omega
      simp only [absE, absL, absF, reduceCtorEq, ↓reduceIte, Nat.reduceEqDiff, Nat.reduceAdd, Nat.reduceLT, Nat.reduceMul, Nat.reduceSub, Nat.reduceLeDiff, Int.reduceLT, Int.reduceLE, Int.reduceEq, Option.isSome_some, implies_true, false_implies, Prod.mk.injEq, ne_eq, not_false_eq_true, not_true_eq_false, ge_iff_le, gt_iff_lt, Int.toNat_natCast, Int.reduceToNat, Int.cast_ofNat_Int, Int.natCast_nonneg, h, Try.results154]
      exact ⟨[], by simp, by simp, by simp [renV, renVs, renSegs, renSg, finL]⟩
def lvN : Bool → List (List Int) → AV
  | false, _ => .ref .nils
  | true, L => .ref (.sl 50 0 0 0 L.length 10)
def lvB : Bool → List (List Int) → AV
  | false, L => .ref (.sl 0 0 0 0 L.length 10)
  | true, L => .ref (.sl 50 0 0 0 L.length 10)
def agB : Bool → List (List Int) → List Blk
  | false, L => [plB L]
  | true, _ => [.dead]
def mmL : Bool → List (List Int) → List (Abs.Id × Blk)
  | false, _ => []
  | true, L => [((50, 0), plB L)]
def SRn (L' : List (List Int)) (v : AV) (ms ns : List Blk) : Prop :=
  (L' = [] ∧ v = .ref .nils ∧ ms = [] ∧ ns = []) ∨ (L' ≠ [] ∧ v = .ref (.sl 1 0 0 0 L'.length 10) ∧ ms = [] ∧ ns = [plB L'])
def SRb (L L' : List (List Int)) (v : AV) (ms ns : List Blk) : Prop :=
  (L' = L ∧ v = .ref (.sl 0 0 0 0 L.length 10) ∧ ms = [plB L] ∧ ns = []) ∨ (L' ≠ [] ∧ v = .ref (.sl 1 0 0 0 L'.length 10) ∧ ms = [.dead] ∧ ns = [plB L'])
theorem mapsB_ok (N : Nat) (t s : List Int) (most : Nat) (ht : Bytes 100 t) (hs : Bytes 100 s) (st : SqP N t) (ss : SqP N s) (hm0 : 0 < most) (hm : most ≤ 1000000) : ∀ d (f : List Int) (L : List (List Int)), PGood true N N t s f → N < cntL f N + d → L.length < most →
    ACalls Try.prog 111 [.agg (sqS N t), .agg (sqS N s), .agg (lmS N f), .i .i64 most, .ref (.sl 0 0 0 0 L.length 10)] [plB L] (fun v ms ns => SRb L (ism N t s (ltM most) d f L) v ms ns) := by
  have hN := st.le
  intro d
  induction d with
  | zero => intro f L _ h; have := cnt_le (f := f) (k := N); omega
  | succ d ih =>
    intro f L hf hd hL
    by_cases hc : cntL f N = N
    · have hfull : ism N t s (ltM most) (d + 1) f L = L ++ [finL N f] := by rw [ism, if_neg (fnd_full hc)]
      rw [hfull]
      have hci : decide (((cntL f N : Nat) : Int) = (N : Int)) = true := decide_eq_true (by rw [hc])
      have hP := l02Places_ok N f hN fun i hi => by
        rcases hf.pm.val i hi with v | v
        · exact v
        · exact absurd v (cnt_all hc i hi)
      have hpl : (finL N f).length = 10 := mapL_len
      unfold plB
      refine acalls_of_body mix Try.func111 rfl fok111 (Nat.le_of_ble_eq_true rfl) ?_
      unfold abody
      simp only [absE, absL, absF, reduceCtorEq, ↓reduceIte, Nat.reduceEqDiff, Nat.reduceAdd, Nat.reduceLT, Nat.reduceMul, Nat.reduceSub, Nat.reduceLeDiff, Int.reduceLT, Int.reduceLE, Int.reduceEq, Option.isSome_some, implies_true, false_implies, Prod.mk.injEq, ne_eq, not_false_eq_true, not_true_eq_false, ge_iff_le, gt_iff_lt, Int.toNat_natCast, Int.reduceToNat, Int.cast_ofNat_Int, Int.natCast_nonneg, hci, Try.f111]
      refine CallsVia.none (hP) ?_
      rintro _ _ _ ⟨rfl, rfl, rfl⟩
      simp only [absE, absL, absF, reduceCtorEq, ↓reduceIte, Nat.reduceEqDiff, Nat.reduceAdd, Nat.reduceLT, Nat.reduceMul, Nat.reduceSub, Nat.reduceLeDiff, Int.reduceLT, Int.reduceLE, Int.reduceEq, Option.isSome_some, implies_true, false_implies, Prod.mk.injEq, ne_eq, not_false_eq_true, not_true_eq_false, ge_iff_le, gt_iff_lt, Int.toNat_natCast, Int.reduceToNat, Int.cast_ofNat_Int, Int.natCast_nonneg, Try.results111]
      repeat refine And.intro (by omega) ?_
      exact ⟨[(16, 0)], by simp, by simp, .inr ⟨by simp, by simp [renV, renAt, renFin, idx], by simp [renBlk], by simp [plB, Mem.get, assoc, renBlk, renSegs, renSg, Nat.add_mul]⟩⟩
    · have hx := fnd_free hc
      have hci : ¬ ((cntL f N : Nat) : Int) = N := by omega
      have hfx : pl f (fnd (pl f) 255 N) = 255 := fnd_at hx
      have hbe : ∀ i, i < fnd (pl f) 255 N → pl f i ≠ 255 := fun i hi => fnd_none hi
      have e1 : ism N t s (ltM most) (d + 1) f L = ismIn N t s (ltM most) (ism N t s (ltM most) d) f (fnd (pl f) 255 N) N L := by rw [ism, if_pos hx]
      rw [e1]
      have hlen := fun y => ismIn_len (N := N) (t := t) (s := s) (most := most) (rec := ism N t s (ltM most) d) (fun g L hL => ism_len hL) (f := f) (x := fnd (pl f) 255 N) (L := L) (by first | omega | simp) (y := y)
      generalize hX : fnd (pl f) 255 N = X at hx hfx hbe hlen ⊢
      unfold plB
      refine acalls_of_body mix Try.func111 rfl fok111 (Nat.le_of_ble_eq_true rfl) ?_
      unfold abody
      simp only [absE, absL, absF, reduceCtorEq, ↓reduceIte, Nat.reduceEqDiff, Nat.reduceAdd, Nat.reduceLT, Nat.reduceMul, Nat.reduceSub, Nat.reduceLeDiff, Int.reduceLT, Int.reduceLE, Int.reduceEq, Option.isSome_some, implies_true, false_implies, Prod.mk.injEq, ne_eq, not_false_eq_true, not_true_eq_false, ge_iff_le, gt_iff_lt, Int.toNat_natCast, Int.reduceToNat, Int.cast_ofNat_Int, Int.natCast_nonneg, hci, Try.f111]
      refine awpLoop.intro (fun x : Nat => [(3, .i .i64 most), (4, .ref (.sl 0 0 0 0 L.length 10)), (5, .ref (.ptr 1 0 0 0)), (6, .ref (.ptr 2 0 0 0)), (7, .ref (.ptr 3 0 0 0)), (10, .ref .nils), (11, .i .i64 x)]) (fun x => ⟨[.lv true [(0, .ints .u8 (L.length * 10) L.flatten)]], [((1, 0), .lv true (sqS N t)), ((2, 0), .lv true (sqS N s)), ((3, 0), .lv true (lmS N f))], 20⟩) (fun x => x ≤ X) (fun x => X - x) 0 (by omega) ⟨[((1,0),(1,0)), ((2,0),(2,0)), ((3,0),(3,0))], rfl, ?_, ?_⟩ ?_
      · simp [wkEnv, lk, renV, renAt, renTo]
      · simp [wkMem, wkLoc, Mem.get, assoc, renBlk, renSegs, renSg, renTo]
      · intro x hxX
        have x10 : (x : Int) < 10 := by omega
        have x11 : 0 + x * 1 < 10 := by omega
        have w := wrap_i64s (show x < 2 ^ 62 by omega)
        by_cases h : x = X
        · subst h
          have k1 : (toS f).getD (0 + x * 1) 0 = -1 := by rw [Nat.zero_add, Nat.mul_one, toS_get (by omega), if_pos hfx]
          simp only [absE, absL, absF, reduceCtorEq, ↓reduceIte, Nat.reduceEqDiff, Nat.reduceAdd, Nat.reduceLT, Nat.reduceMul, Nat.reduceSub, Nat.reduceLeDiff, Int.reduceLT, Int.reduceLE, Int.reduceEq, Option.isSome_some, implies_true, false_implies, Prod.mk.injEq, ne_eq, not_false_eq_true, not_true_eq_false, ge_iff_le, gt_iff_lt, Int.toNat_natCast, Int.reduceToNat, Int.cast_ofNat_Int, Int.natCast_nonneg, x10, x11, k1]
          refine awpLoop.intro (fun S : Nat × Bool × List (List Int) => [(3, .i .i64 most), (4, (lvB S.2.1 S.2.2)), (5, .ref (.ptr 1 0 0 0)), (6, .ref (.ptr 2 0 0 0)), (7, .ref (.ptr 3 0 0 0)), (10, .ref .nils), (11, .i .i64 x), (12, .i .i64 S.1)]) (fun S => ⟨(agB S.2.1 L), [((1, 0), .lv true (sqS N t)), ((2, 0), .lv true (sqS N s)), ((3, 0), .lv true (lmS N f))] ++ mmL S.2.1 S.2.2, 60⟩)
            (fun S => S.1 ≤ N ∧ S.2.2 = ismIn N t s (ltM most) (ism N t s (ltM most) d) f x S.1 L ∧ (S.2.1 = false → S.2.2 = L) ∧ (S.2.1 = true → S.2.2 ≠ [])) (fun S => N - S.1) (0, false, L) ⟨by simp, rfl, fun _ => rfl, by simp⟩ ⟨[((1,0),(1,0)), ((2,0),(2,0)), ((3,0),(3,0))], rfl, ?_, ?_⟩ ?_
          · simp [wkEnv, lk, renV, renAt, renTo, lvB]
          · simp [wkMem, wkLoc, Mem.get, assoc, renBlk, renSegs, renSg, renTo, mmL, plB, agB]
          · rintro ⟨y, c, L'⟩ ⟨hy, hL', hc', hne⟩
            simp only at hy hL' hc' hne
            have hln := hlen y
            rw [← hL'] at hln
            have stop : (y = N ∨ ¬ L'.length < most) → ismIn N t s (ltM most) (ism N t s (ltM most) d) f x N L = L' := fun hh => by
              by_cases e : y = N
              · rw [hL', e]
              · rw [ismIn_stop (y := y) (by rw [← hL']; exact decide_eq_false (by omega)) hy, hL']
            have step : L'.length < most → ismIn N t s (ltM most) (ism N t s (ltM most) d) f x (y + 1) L = (match lexp true N N t s f x y with | some g => ism N t s (ltM most) d g L' | none => L') := fun hh => by
              rw [ismIn, ← hL', if_pos (show ltM most L'.length = true from decide_eq_true hh)]
            cases c
            · obtain rfl : L' = L := hc' rfl
              by_cases h : (y : Int) < N
              · have wy := wrap_i64s (show y < 2 ^ 62 by omega)
                have hyN : y < N := by omega
                have y10 : (y : Int) < 10 := by omega
                have y11 : 0 + y * 1 < 10 := by omega
                by_cases hl : ((L'.length : Nat) : Int) < most
                · have hlt : (L' : List (List Int)).length < most := by first | omega | (simp; omega)
                  have step := step hlt
                  cases hu : usd N f y
                  · have k2 : (usS N f).getD (0 + y * 1) 0 = 0 := by rw [Nat.zero_add, Nat.mul_one, usS_get (by omega), hu]; rfl
                    have hX := clo_lexp (d := N) (a := x) (b := y) hN hN st ss hf hx hyN (by omega)
                    have hC := l02Close_ok N t s ht hs st ss N f x y ⟨hf.pm, hf.inj⟩ hx hyN (by omega)
                    generalize clo true N t s N f x y = r at hX hC
                    obtain ⟨g, ok⟩ := r
                    simp only [absE, absL, absF, reduceCtorEq, ↓reduceIte, Nat.reduceEqDiff, Nat.reduceAdd, Nat.reduceLT, Nat.reduceMul, Nat.reduceSub, Nat.reduceLeDiff, Int.reduceLT, Int.reduceLE, Int.reduceEq, Option.isSome_some, implies_true, false_implies, Prod.mk.injEq, ne_eq, not_false_eq_true, not_true_eq_false, ge_iff_le, gt_iff_lt, Int.toNat_natCast, Int.reduceToNat, Int.cast_ofNat_Int, Int.natCast_nonneg, h, hl, y10, y11, k2, lvB, mmL, agB]
                    refine CallsVia.none hC ?_
                    rintro _ _ _ ⟨rfl, rfl, rfl⟩
                    cases ok
                    · have hX : lexp true N N t s f x y = none := hX
                      simp only [absE, absL, absF, reduceCtorEq, ↓reduceIte, Nat.reduceEqDiff, Nat.reduceAdd, Nat.reduceLT, Nat.reduceMul, Nat.reduceSub, Nat.reduceLeDiff, Int.reduceLT, Int.reduceLE, Int.reduceEq, Option.isSome_some, implies_true, false_implies, Prod.mk.injEq, ne_eq, not_false_eq_true, not_true_eq_false, ge_iff_le, gt_iff_lt, Int.toNat_natCast, Int.reduceToNat, Int.cast_ofNat_Int, Int.natCast_nonneg]
                      refine LoopNext.intro (y + 1, false, L') ⟨by simp only; omega, by simp only [step, hX], fun _ => rfl, by simp⟩ (by simp only; omega) ⟨[((1,0),(1,0)), ((2,0),(2,0)), ((3,0),(3,0))], rfl, ?_, ?_⟩
                      · simp [wkEnv, lk, renV, renAt, renTo, lvB, wy]
                      · simp [wkMem, wkLoc, Mem.get, assoc, renBlk, renSegs, renSg, renTo, mmL, plB, agB]
                    · have hX : lexp true N N t s f x y = some g := hX
                      have hLE := lexp_le hX
                      have hgood := hLE.good
                      have hcg : N < cntL g N + d := by have := le_cnt hN hx hyN hfx hLE; omega
                      simp only [absE, absL, absF, reduceCtorEq, ↓reduceIte, Nat.reduceEqDiff, Nat.reduceAdd, Nat.reduceLT, Nat.reduceMul, Nat.reduceSub, Nat.reduceLeDiff, Int.reduceLT, Int.reduceLE, Int.reduceEq, Option.isSome_some, implies_true, false_implies, Prod.mk.injEq, ne_eq, not_false_eq_true, not_true_eq_false, ge_iff_le, gt_iff_lt, Int.toNat_natCast, Int.reduceToNat, Int.cast_ofNat_Int, Int.natCast_nonneg]
                      refine CallsVia.args [(0, 0)] (ih g L' hgood hcg hlt) (by simp) (by simp [Mem.get, assoc, plB]) rfl (by simp [argBlks, Mem.get, assoc, plB, renBlk, renSegs, renSg]) ?_
                      rintro _ _ _ (⟨hsame, rfl, rfl, rfl⟩ | ⟨hnn, rfl, rfl, rfl⟩)
                      · simp only [absE, absL, absF, reduceCtorEq, ↓reduceIte, Nat.reduceEqDiff, Nat.reduceAdd, Nat.reduceLT, Nat.reduceMul, Nat.reduceSub, Nat.reduceLeDiff, Int.reduceLT, Int.reduceLE, Int.reduceEq, Option.isSome_some, implies_true, false_implies, Prod.mk.injEq, ne_eq, not_false_eq_true, not_true_eq_false, ge_iff_le, gt_iff_lt, Int.toNat_natCast, Int.reduceToNat, Int.cast_ofNat_Int, Int.natCast_nonneg, plB]
                        refine LoopNext.intro (y + 1, false, L') ⟨by simp only; omega, by simp only [step, hX]; exact hsame.symm, fun _ => rfl, by simp⟩ (by simp only; omega) ⟨[((1,0),(1,0)), ((2,0),(2,0)), ((3,0),(3,0))], rfl, ?_, ?_⟩
                        · simp [wkEnv, lk, renV, renAt, renTo, renOut, lvB, wy]
                        · simp [wkMem, wkLoc, Mem.get, assoc, renBlk, renSegs, renSg, renTo, mmL, plB, agB]
                      · simp only [absE, absL, absF, reduceCtorEq, ↓reduceIte, Nat.reduceEqDiff, Nat.reduceAdd, Nat.reduceLT, Nat.reduceMul, Nat.reduceSub, Nat.reduceLeDiff, Int.reduceLT, Int.reduceLE, Int.reduceEq, Option.isSome_some, implies_true, false_implies, Prod.mk.injEq, ne_eq, not_false_eq_true, not_true_eq_false, ge_iff_le, gt_iff_lt, Int.toNat_natCast, Int.reduceToNat, Int.cast_ofNat_Int, Int.natCast_nonneg, plB]
                        refine LoopNext.intro (y + 1, true, ism N t s (ltM most) d g L') ⟨by simp only; omega, by simp only [step, hX], by simp, fun _ => hnn⟩ (by simp only; omega) ⟨[((1,0),(1,0)), ((2,0),(2,0)), ((3,0),(3,0)), ((93,0),(50,0))], rfl, ?_, ?_⟩
                        · simp [wkEnv, lk, renV, renAt, renTo, renOut, lvB, wy]
                        · simp [wkMem, wkLoc, Mem.get, assoc, renBlk, renSegs, renSg, renTo, mmL, plB, agB]
                  · have k2 : (usS N f).getD (0 + y * 1) 0 = 1 := by rw [Nat.zero_add, Nat.mul_one, usS_get (by omega), hu]; rfl
                    have hX := lexp_used (t := t) (s := s) hN hx hyN hfx hu
                    simp only [absE, absL, absF, reduceCtorEq, ↓reduceIte, Nat.reduceEqDiff, Nat.reduceAdd, Nat.reduceLT, Nat.reduceMul, Nat.reduceSub, Nat.reduceLeDiff, Int.reduceLT, Int.reduceLE, Int.reduceEq, Option.isSome_some, implies_true, false_implies, Prod.mk.injEq, ne_eq, not_false_eq_true, not_true_eq_false, ge_iff_le, gt_iff_lt, Int.toNat_natCast, Int.reduceToNat, Int.cast_ofNat_Int, Int.natCast_nonneg, h, hl, y10, y11, k2, lvB, mmL, agB]
                    refine LoopNext.intro (y + 1, false, L') ⟨by simp only; omega, by simp only [step, hX], fun _ => rfl, by simp⟩ (by simp only; omega) ⟨[((1,0),(1,0)), ((2,0),(2,0)), ((3,0),(3,0))], rfl, ?_, ?_⟩
                    · simp [wkEnv, lk, renV, renAt, renTo, lvB, wy]
                    · simp [wkMem, wkLoc, Mem.get, assoc, renBlk, renSegs, renSg, renTo, mmL, plB, agB]
                · have hst := stop (.inr (by first | omega | (simp; omega)))
                  simp only [absE, absL, absF, reduceCtorEq, ↓reduceIte, Nat.reduceEqDiff, Nat.reduceAdd, Nat.reduceLT, Nat.reduceMul, Nat.reduceSub, Nat.reduceLeDiff, Int.reduceLT, Int.reduceLE, Int.reduceEq, Option.isSome_some, implies_true, false_implies, Prod.mk.injEq, ne_eq, not_false_eq_true, not_true_eq_false, ge_iff_le, gt_iff_lt, Int.toNat_natCast, Int.reduceToNat, Int.cast_ofNat_Int, Int.natCast_nonneg, h, hl, lvB, mmL, agB, Try.results111]
                  exact ⟨[], by simp, by simp, by rw [hst, hc' rfl]; exact .inl ⟨rfl, by simp [renV, renAt, renFin], by simp [plB, renBlk, renSegs, renSg], by simp⟩⟩
              · have hst := stop (.inl (by omega))
                simp only [absE, absL, absF, reduceCtorEq, ↓reduceIte, Nat.reduceEqDiff, Nat.reduceAdd, Nat.reduceLT, Nat.reduceMul, Nat.reduceSub, Nat.reduceLeDiff, Int.reduceLT, Int.reduceLE, Int.reduceEq, Option.isSome_some, implies_true, false_implies, Prod.mk.injEq, ne_eq, not_false_eq_true, not_true_eq_false, ge_iff_le, gt_iff_lt, Int.toNat_natCast, Int.reduceToNat, Int.cast_ofNat_Int, Int.natCast_nonneg, h, lvB, mmL, agB, Try.results111]
                exact ⟨[], by simp, by simp, by rw [hst, hc' rfl]; exact .inl ⟨rfl, by simp [renV, renAt, renFin], by simp [plB, renBlk, renSegs, renSg], by simp⟩⟩
            · skip
              by_cases h : (y : Int) < N
              · have wy := wrap_i64s (show y < 2 ^ 62 by omega)
                have hyN : y < N := by omega
                have y10 : (y : Int) < 10 := by omega
                have y11 : 0 + y * 1 < 10 := by omega
                by_cases hl : ((L'.length : Nat) : Int) < most
                · have hlt : (L' : List (List Int)).length < most := by first | omega | (simp; omega)
                  have step := step hlt
                  cases hu : usd N f y
                  · have k2 : (usS N f).getD (0 + y * 1) 0 = 0 := by rw [Nat.zero_add, Nat.mul_one, usS_get (by omega), hu]; rfl
                    have hX := clo_lexp (d := N) (a := x) (b := y) hN hN st ss hf hx hyN (by omega)
                    have hC := l02Close_ok N t s ht hs st ss N f x y ⟨hf.pm, hf.inj⟩ hx hyN (by omega)
                    generalize clo true N t s N f x y = r at hX hC
                    obtain ⟨g, ok⟩ := r
                    simp only [absE, absL, absF, reduceCtorEq, ↓reduceIte, Nat.reduceEqDiff, Nat.reduceAdd, Nat.reduceLT, Nat.reduceMul, Nat.reduceSub, Nat.reduceLeDiff, Int.reduceLT, Int.reduceLE, Int.reduceEq, Option.isSome_some, implies_true, false_implies, Prod.mk.injEq, ne_eq, not_false_eq_true, not_true_eq_false, ge_iff_le, gt_iff_lt, Int.toNat_natCast, Int.reduceToNat, Int.cast_ofNat_Int, Int.natCast_nonneg, h, hl, y10, y11, k2, lvB, mmL, agB]
                    refine CallsVia.none hC ?_
                    rintro _ _ _ ⟨rfl, rfl, rfl⟩
                    cases ok
                    · have hX : lexp true N N t s f x y = none := hX
                      simp only [absE, absL, absF, reduceCtorEq, ↓reduceIte, Nat.reduceEqDiff, Nat.reduceAdd, Nat.reduceLT, Nat.reduceMul, Nat.reduceSub, Nat.reduceLeDiff, Int.reduceLT, Int.reduceLE, Int.reduceEq, Option.isSome_some, implies_true, false_implies, Prod.mk.injEq, ne_eq, not_false_eq_true, not_true_eq_false, ge_iff_le, gt_iff_lt, Int.toNat_natCast, Int.reduceToNat, Int.cast_ofNat_Int, Int.natCast_nonneg]
                      refine LoopNext.intro (y + 1, true, L') ⟨by simp only; omega, by simp only [step, hX], by simp, hne⟩ (by simp only; omega) ⟨[((1,0),(1,0)), ((2,0),(2,0)), ((3,0),(3,0)), ((50,0),(50,0))], rfl, ?_, ?_⟩
                      · simp [wkEnv, lk, renV, renAt, renTo, lvB, wy]
                      · simp [wkMem, wkLoc, Mem.get, assoc, renBlk, renSegs, renSg, renTo, mmL, plB, agB]
                    · have hX : lexp true N N t s f x y = some g := hX
                      have hLE := lexp_le hX
                      have hgood := hLE.good
                      have hcg : N < cntL g N + d := by have := le_cnt hN hx hyN hfx hLE; omega
                      simp only [absE, absL, absF, reduceCtorEq, ↓reduceIte, Nat.reduceEqDiff, Nat.reduceAdd, Nat.reduceLT, Nat.reduceMul, Nat.reduceSub, Nat.reduceLeDiff, Int.reduceLT, Int.reduceLE, Int.reduceEq, Option.isSome_some, implies_true, false_implies, Prod.mk.injEq, ne_eq, not_false_eq_true, not_true_eq_false, ge_iff_le, gt_iff_lt, Int.toNat_natCast, Int.reduceToNat, Int.cast_ofNat_Int, Int.natCast_nonneg]
                      refine CallsVia.args [(50, 0)] (ih g L' hgood hcg hlt) (by simp) (by simp [Mem.get, assoc, plB]) rfl (by simp [argBlks, Mem.get, assoc, plB, renBlk, renSegs, renSg]) ?_
                      rintro _ _ _ (⟨hsame, rfl, rfl, rfl⟩ | ⟨hnn, rfl, rfl, rfl⟩)
                      · simp only [absE, absL, absF, reduceCtorEq, ↓reduceIte, Nat.reduceEqDiff, Nat.reduceAdd, Nat.reduceLT, Nat.reduceMul, Nat.reduceSub, Nat.reduceLeDiff, Int.reduceLT, Int.reduceLE, Int.reduceEq, Option.isSome_some, implies_true, false_implies, Prod.mk.injEq, ne_eq, not_false_eq_true, not_true_eq_false, ge_iff_le, gt_iff_lt, Int.toNat_natCast, Int.reduceToNat, Int.cast_ofNat_Int, Int.natCast_nonneg, plB]
                        refine LoopNext.intro (y + 1, true, L') ⟨by simp only; omega, by simp only [step, hX]; exact hsame.symm, by simp, hne⟩ (by simp only; omega) ⟨[((1,0),(1,0)), ((2,0),(2,0)), ((3,0),(3,0)), ((50,0),(50,0))], rfl, ?_, ?_⟩
                        · simp [wkEnv, lk, renV, renAt, renTo, renOut, lvB, wy]
                        · simp [wkMem, wkLoc, Mem.get, assoc, renBlk, renSegs, renSg, renTo, mmL, plB, agB]
                      · simp only [absE, absL, absF, reduceCtorEq, ↓reduceIte, Nat.reduceEqDiff, Nat.reduceAdd, Nat.reduceLT, Nat.reduceMul, Nat.reduceSub, Nat.reduceLeDiff, Int.reduceLT, Int.reduceLE, Int.reduceEq, Option.isSome_some, implies_true, false_implies, Prod.mk.injEq, ne_eq, not_false_eq_true, not_true_eq_false, ge_iff_le, gt_iff_lt, Int.toNat_natCast, Int.reduceToNat, Int.cast_ofNat_Int, Int.natCast_nonneg, plB]
                        refine LoopNext.intro (y + 1, true, ism N t s (ltM most) d g L') ⟨by simp only; omega, by simp only [step, hX], by simp, fun _ => hnn⟩ (by simp only; omega) ⟨[((1,0),(1,0)), ((2,0),(2,0)), ((3,0),(3,0)), ((93,0),(50,0))], rfl, ?_, ?_⟩
                        · simp [wkEnv, lk, renV, renAt, renTo, renOut, lvB, wy]
                        · simp [wkMem, wkLoc, Mem.get, assoc, renBlk, renSegs, renSg, renTo, mmL, plB, agB]
                  · have k2 : (usS N f).getD (0 + y * 1) 0 = 1 := by rw [Nat.zero_add, Nat.mul_one, usS_get (by omega), hu]; rfl
                    have hX := lexp_used (t := t) (s := s) hN hx hyN hfx hu
                    simp only [absE, absL, absF, reduceCtorEq, ↓reduceIte, Nat.reduceEqDiff, Nat.reduceAdd, Nat.reduceLT, Nat.reduceMul, Nat.reduceSub, Nat.reduceLeDiff, Int.reduceLT, Int.reduceLE, Int.reduceEq, Option.isSome_some, implies_true, false_implies, Prod.mk.injEq, ne_eq, not_false_eq_true, not_true_eq_false, ge_iff_le, gt_iff_lt, Int.toNat_natCast, Int.reduceToNat, Int.cast_ofNat_Int, Int.natCast_nonneg, h, hl, y10, y11, k2, lvB, mmL, agB]
                    refine LoopNext.intro (y + 1, true, L') ⟨by simp only; omega, by simp only [step, hX], by simp, hne⟩ (by simp only; omega) ⟨[((1,0),(1,0)), ((2,0),(2,0)), ((3,0),(3,0)), ((50,0),(50,0))], rfl, ?_, ?_⟩
                    · simp [wkEnv, lk, renV, renAt, renTo, lvB, wy]
                    · simp [wkMem, wkLoc, Mem.get, assoc, renBlk, renSegs, renSg, renTo, mmL, plB, agB]
                · have hst := stop (.inr (by first | omega | (simp; omega)))
                  simp only [absE, absL, absF, reduceCtorEq, ↓reduceIte, Nat.reduceEqDiff, Nat.reduceAdd, Nat.reduceLT, Nat.reduceMul, Nat.reduceSub, Nat.reduceLeDiff, Int.reduceLT, Int.reduceLE, Int.reduceEq, Option.isSome_some, implies_true, false_implies, Prod.mk.injEq, ne_eq, not_false_eq_true, not_true_eq_false, ge_iff_le, gt_iff_lt, Int.toNat_natCast, Int.reduceToNat, Int.cast_ofNat_Int, Int.natCast_nonneg, h, hl, lvB, mmL, agB, Try.results111]
                  exact ⟨[(50, 0)], by simp, by simp, by rw [hst]; exact .inr ⟨hne rfl, by simp [renV, renAt, renFin, idx], by simp [renBlk], by simp [plB, Mem.get, assoc, renBlk, renSegs, renSg]⟩⟩
              · have hst := stop (.inl (by omega))
                simp only [absE, absL, absF, reduceCtorEq, ↓reduceIte, Nat.reduceEqDiff, Nat.reduceAdd, Nat.reduceLT, Nat.reduceMul, Nat.reduceSub, Nat.reduceLeDiff, Int.reduceLT, Int.reduceLE, Int.reduceEq, Option.isSome_some, implies_true, false_implies, Prod.mk.injEq, ne_eq, not_false_eq_true, not_true_eq_false, ge_iff_le, gt_iff_lt, Int.toNat_natCast, Int.reduceToNat, Int.cast_ofNat_Int, Int.natCast_nonneg, h, lvB, mmL, agB, Try.results111]
                exact ⟨[(50, 0)], by simp, by simp, by rw [hst]; exact .inr ⟨hne rfl, by simp [renV, renAt, renFin, idx], by simp [renBlk], by simp [plB, Mem.get, assoc, renBlk, renSegs, renSg]⟩⟩
        · have k1 : (toS f).getD (0 + x * 1) 0 = ((pl f x : Nat) : Int) := by rw [Nat.zero_add, Nat.mul_one, toS_get (by omega), if_neg (hbe x (by omega))]
          simp only [absE, absL, absF, reduceCtorEq, ↓reduceIte, Nat.reduceEqDiff, Nat.reduceAdd, Nat.reduceLT, Nat.reduceMul, Nat.reduceSub, Nat.reduceLeDiff, Int.reduceLT, Int.reduceLE, Int.reduceEq, Option.isSome_some, implies_true, false_implies, Prod.mk.injEq, ne_eq, not_false_eq_true, not_true_eq_false, ge_iff_le, gt_iff_lt, Int.toNat_natCast, Int.reduceToNat, Int.cast_ofNat_Int, Int.natCast_nonneg, x10, x11, k1]
          refine LoopNext.intro (x + 1) (by omega) (by omega) ⟨[((1,0),(1,0)), ((2,0),(2,0)), ((3,0),(3,0))], rfl, ?_, ?_⟩
          · simp [wkEnv, lk, renV, renAt, renTo, w]
          · simp [wkMem, wkLoc, Mem.get, assoc, renBlk, renSegs, renSg, renTo, w]
theorem mapsN_ok (N : Nat) (t s : List Int) (most : Nat) (ht : Bytes 100 t) (hs : Bytes 100 s) (st : SqP N t) (ss : SqP N s) (hm0 : 0 < most) (hm : most ≤ 1000000) : ∀ d (f : List Int), PGood true N N t s f → N < cntL f N + d →
    ACalls Try.prog 111 [.agg (sqS N t), .agg (sqS N s), .agg (lmS N f), .i .i64 most, .ref .nils] [] (fun v ms ns => SRn (ism N t s (ltM most) d f []) v ms ns) := by
  have hN := st.le
  intro d
  induction d with
  | zero => intro f _ h; have := cnt_le (f := f) (k := N); omega
  | succ d ih =>
    intro f hf hd
    by_cases hc : cntL f N = N
    · have hfull : ism N t s (ltM most) (d + 1) f [] = [] ++ [finL N f] := by rw [ism, if_neg (fnd_full hc)]
      rw [hfull]
      have hci : decide (((cntL f N : Nat) : Int) = (N : Int)) = true := decide_eq_true (by rw [hc])
      have hP := l02Places_ok N f hN fun i hi => by
        rcases hf.pm.val i hi with v | v
        · exact v
        · exact absurd v (cnt_all hc i hi)
      have hpl : (finL N f).length = 10 := mapL_len
      skip
      refine acalls_of_body mix Try.func111 rfl fok111 (Nat.le_of_ble_eq_true rfl) ?_
      unfold abody
      simp only [absE, absL, absF, reduceCtorEq, ↓reduceIte, Nat.reduceEqDiff, Nat.reduceAdd, Nat.reduceLT, Nat.reduceMul, Nat.reduceSub, Nat.reduceLeDiff, Int.reduceLT, Int.reduceLE, Int.reduceEq, Option.isSome_some, implies_true, false_implies, Prod.mk.injEq, ne_eq, not_false_eq_true, not_true_eq_false, ge_iff_le, gt_iff_lt, Int.toNat_natCast, Int.reduceToNat, Int.cast_ofNat_Int, Int.natCast_nonneg, hci, Try.f111]
      refine CallsVia.none (hP) ?_
      rintro _ _ _ ⟨rfl, rfl, rfl⟩
      simp only [absE, absL, absF, reduceCtorEq, ↓reduceIte, Nat.reduceEqDiff, Nat.reduceAdd, Nat.reduceLT, Nat.reduceMul, Nat.reduceSub, Nat.reduceLeDiff, Int.reduceLT, Int.reduceLE, Int.reduceEq, Option.isSome_some, implies_true, false_implies, Prod.mk.injEq, ne_eq, not_false_eq_true, not_true_eq_false, ge_iff_le, gt_iff_lt, Int.toNat_natCast, Int.reduceToNat, Int.cast_ofNat_Int, Int.natCast_nonneg, Try.results111]
      repeat refine And.intro (by omega) ?_
      exact ⟨[(16, 0)], by simp, by simp, .inr ⟨by simp, by simp [renV, renAt, renFin, idx], by simp, by simp [plB, Mem.get, assoc, renBlk, renSegs, renSg]⟩⟩
    · have hx := fnd_free hc
      have hci : ¬ ((cntL f N : Nat) : Int) = N := by omega
      have hfx : pl f (fnd (pl f) 255 N) = 255 := fnd_at hx
      have hbe : ∀ i, i < fnd (pl f) 255 N → pl f i ≠ 255 := fun i hi => fnd_none hi
      have e1 : ism N t s (ltM most) (d + 1) f [] = ismIn N t s (ltM most) (ism N t s (ltM most) d) f (fnd (pl f) 255 N) N [] := by rw [ism, if_pos hx]
      rw [e1]
      have hlen := fun y => ismIn_len (N := N) (t := t) (s := s) (most := most) (rec := ism N t s (ltM most) d) (fun g L hL => ism_len hL) (f := f) (x := fnd (pl f) 255 N) (L := []) (by first | omega | simp) (y := y)
      generalize hX : fnd (pl f) 255 N = X at hx hfx hbe hlen ⊢
      skip
      refine acalls_of_body mix Try.func111 rfl fok111 (Nat.le_of_ble_eq_true rfl) ?_
      unfold abody
      simp only [absE, absL, absF, reduceCtorEq, ↓reduceIte, Nat.reduceEqDiff, Nat.reduceAdd, Nat.reduceLT, Nat.reduceMul, Nat.reduceSub, Nat.reduceLeDiff, Int.reduceLT, Int.reduceLE, Int.reduceEq, Option.isSome_some, implies_true, false_implies, Prod.mk.injEq, ne_eq, not_false_eq_true, not_true_eq_false, ge_iff_le, gt_iff_lt, Int.toNat_natCast, Int.reduceToNat, Int.cast_ofNat_Int, Int.natCast_nonneg, hci, Try.f111]
      refine awpLoop.intro (fun x : Nat => [(3, .i .i64 most), (4, .ref .nils), (5, .ref (.ptr 1 0 0 0)), (6, .ref (.ptr 2 0 0 0)), (7, .ref (.ptr 3 0 0 0)), (10, .ref .nils), (11, .i .i64 x)]) (fun x => ⟨[], [((1, 0), .lv true (sqS N t)), ((2, 0), .lv true (sqS N s)), ((3, 0), .lv true (lmS N f))], 20⟩) (fun x => x ≤ X) (fun x => X - x) 0 (by omega) ⟨[((1,0),(1,0)), ((2,0),(2,0)), ((3,0),(3,0))], rfl, ?_, ?_⟩ ?_
      · simp [wkEnv, lk, renV, renAt, renTo]
      · simp [wkMem, wkLoc, Mem.get, assoc, renBlk, renSegs, renSg, renTo]
      · intro x hxX
        have x10 : (x : Int) < 10 := by omega
        have x11 : 0 + x * 1 < 10 := by omega
        have w := wrap_i64s (show x < 2 ^ 62 by omega)
        by_cases h : x = X
        · subst h
          have k1 : (toS f).getD (0 + x * 1) 0 = -1 := by rw [Nat.zero_add, Nat.mul_one, toS_get (by omega), if_pos hfx]
          simp only [absE, absL, absF, reduceCtorEq, ↓reduceIte, Nat.reduceEqDiff, Nat.reduceAdd, Nat.reduceLT, Nat.reduceMul, Nat.reduceSub, Nat.reduceLeDiff, Int.reduceLT, Int.reduceLE, Int.reduceEq, Option.isSome_some, implies_true, false_implies, Prod.mk.injEq, ne_eq, not_false_eq_true, not_true_eq_false, ge_iff_le, gt_iff_lt, Int.toNat_natCast, Int.reduceToNat, Int.cast_ofNat_Int, Int.natCast_nonneg, x10, x11, k1]
          refine awpLoop.intro (fun S : Nat × Bool × List (List Int) => [(3, .i .i64 most), (4, (lvN S.2.1 S.2.2)), (5, .ref (.ptr 1 0 0 0)), (6, .ref (.ptr 2 0 0 0)), (7, .ref (.ptr 3 0 0 0)), (10, .ref .nils), (11, .i .i64 x), (12, .i .i64 S.1)]) (fun S => ⟨[], [((1, 0), .lv true (sqS N t)), ((2, 0), .lv true (sqS N s)), ((3, 0), .lv true (lmS N f))] ++ mmL S.2.1 S.2.2, 60⟩)
            (fun S => S.1 ≤ N ∧ S.2.2 = ismIn N t s (ltM most) (ism N t s (ltM most) d) f x S.1 [] ∧ (S.2.1 = false → S.2.2 = []) ∧ (S.2.1 = true → S.2.2 ≠ [])) (fun S => N - S.1) (0, false, []) ⟨by simp, rfl, fun _ => rfl, by simp⟩ ⟨[((1,0),(1,0)), ((2,0),(2,0)), ((3,0),(3,0))], rfl, ?_, ?_⟩ ?_
          · simp [wkEnv, lk, renV, renAt, renTo, lvN]
          · simp [wkMem, wkLoc, Mem.get, assoc, renBlk, renSegs, renSg, renTo, mmL, plB]
          · rintro ⟨y, c, L'⟩ ⟨hy, hL', hc', hne⟩
            simp only at hy hL' hc' hne
            have hln := hlen y
            rw [← hL'] at hln
            have stop : (y = N ∨ ¬ L'.length < most) → ismIn N t s (ltM most) (ism N t s (ltM most) d) f x N [] = L' := fun hh => by
              by_cases e : y = N
              · rw [hL', e]
              · rw [ismIn_stop (y := y) (by rw [← hL']; exact decide_eq_false (by omega)) hy, hL']
            have step : L'.length < most → ismIn N t s (ltM most) (ism N t s (ltM most) d) f x (y + 1) [] = (match lexp true N N t s f x y with | some g => ism N t s (ltM most) d g L' | none => L') := fun hh => by
              rw [ismIn, ← hL', if_pos (show ltM most L'.length = true from decide_eq_true hh)]
            cases c
            · obtain rfl : L' = [] := hc' rfl
              by_cases h : (y : Int) < N
              · have wy := wrap_i64s (show y < 2 ^ 62 by omega)
                have hyN : y < N := by omega
                have y10 : (y : Int) < 10 := by omega
                have y11 : 0 + y * 1 < 10 := by omega
                by_cases hl : (0 : Int) < most
                · have hlt : ([] : List (List Int)).length < most := by first | omega | (simp; omega)
                  have step := step hlt
                  cases hu : usd N f y
                  · have k2 : (usS N f).getD (0 + y * 1) 0 = 0 := by rw [Nat.zero_add, Nat.mul_one, usS_get (by omega), hu]; rfl
                    have hX := clo_lexp (d := N) (a := x) (b := y) hN hN st ss hf hx hyN (by omega)
                    have hC := l02Close_ok N t s ht hs st ss N f x y ⟨hf.pm, hf.inj⟩ hx hyN (by omega)
                    generalize clo true N t s N f x y = r at hX hC
                    obtain ⟨g, ok⟩ := r
                    simp only [absE, absL, absF, reduceCtorEq, ↓reduceIte, Nat.reduceEqDiff, Nat.reduceAdd, Nat.reduceLT, Nat.reduceMul, Nat.reduceSub, Nat.reduceLeDiff, Int.reduceLT, Int.reduceLE, Int.reduceEq, Option.isSome_some, implies_true, false_implies, Prod.mk.injEq, ne_eq, not_false_eq_true, not_true_eq_false, ge_iff_le, gt_iff_lt, Int.toNat_natCast, Int.reduceToNat, Int.cast_ofNat_Int, Int.natCast_nonneg, h, hl, y10, y11, k2, lvN, mmL]
                    refine CallsVia.none hC ?_
                    rintro _ _ _ ⟨rfl, rfl, rfl⟩
                    cases ok
                    · have hX : lexp true N N t s f x y = none := hX
                      simp only [absE, absL, absF, reduceCtorEq, ↓reduceIte, Nat.reduceEqDiff, Nat.reduceAdd, Nat.reduceLT, Nat.reduceMul, Nat.reduceSub, Nat.reduceLeDiff, Int.reduceLT, Int.reduceLE, Int.reduceEq, Option.isSome_some, implies_true, false_implies, Prod.mk.injEq, ne_eq, not_false_eq_true, not_true_eq_false, ge_iff_le, gt_iff_lt, Int.toNat_natCast, Int.reduceToNat, Int.cast_ofNat_Int, Int.natCast_nonneg]
                      refine LoopNext.intro (y + 1, false, []) ⟨by simp only; omega, by simp only [step, hX], fun _ => rfl, by simp⟩ (by simp only; omega) ⟨[((1,0),(1,0)), ((2,0),(2,0)), ((3,0),(3,0))], rfl, ?_, ?_⟩
                      · simp [wkEnv, lk, renV, renAt, renTo, lvN, wy]
                      · simp [wkMem, wkLoc, Mem.get, assoc, renBlk, renSegs, renSg, renTo, mmL, plB]
                    · have hX : lexp true N N t s f x y = some g := hX
                      have hLE := lexp_le hX
                      have hgood := hLE.good
                      have hcg : N < cntL g N + d := by have := le_cnt hN hx hyN hfx hLE; omega
                      simp only [absE, absL, absF, reduceCtorEq, ↓reduceIte, Nat.reduceEqDiff, Nat.reduceAdd, Nat.reduceLT, Nat.reduceMul, Nat.reduceSub, Nat.reduceLeDiff, Int.reduceLT, Int.reduceLE, Int.reduceEq, Option.isSome_some, implies_true, false_implies, Prod.mk.injEq, ne_eq, not_false_eq_true, not_true_eq_false, ge_iff_le, gt_iff_lt, Int.toNat_natCast, Int.reduceToNat, Int.cast_ofNat_Int, Int.natCast_nonneg]
                      refine CallsVia.none (ih g hgood hcg) ?_
                      rintro _ _ _ (⟨hsame, rfl, rfl, rfl⟩ | ⟨hnn, rfl, rfl, rfl⟩)
                      · simp only [absE, absL, absF, reduceCtorEq, ↓reduceIte, Nat.reduceEqDiff, Nat.reduceAdd, Nat.reduceLT, Nat.reduceMul, Nat.reduceSub, Nat.reduceLeDiff, Int.reduceLT, Int.reduceLE, Int.reduceEq, Option.isSome_some, implies_true, false_implies, Prod.mk.injEq, ne_eq, not_false_eq_true, not_true_eq_false, ge_iff_le, gt_iff_lt, Int.toNat_natCast, Int.reduceToNat, Int.cast_ofNat_Int, Int.natCast_nonneg, plB]
                        refine LoopNext.intro (y + 1, false, []) ⟨by simp only; omega, by simp only [step, hX]; exact hsame.symm, fun _ => rfl, by simp⟩ (by simp only; omega) ⟨[((1,0),(1,0)), ((2,0),(2,0)), ((3,0),(3,0))], rfl, ?_, ?_⟩
                        · simp [wkEnv, lk, renV, renAt, renTo, renOut, lvN, wy]
                        · simp [wkMem, wkLoc, Mem.get, assoc, renBlk, renSegs, renSg, renTo, mmL, plB]
                      · simp only [absE, absL, absF, reduceCtorEq, ↓reduceIte, Nat.reduceEqDiff, Nat.reduceAdd, Nat.reduceLT, Nat.reduceMul, Nat.reduceSub, Nat.reduceLeDiff, Int.reduceLT, Int.reduceLE, Int.reduceEq, Option.isSome_some, implies_true, false_implies, Prod.mk.injEq, ne_eq, not_false_eq_true, not_true_eq_false, ge_iff_le, gt_iff_lt, Int.toNat_natCast, Int.reduceToNat, Int.cast_ofNat_Int, Int.natCast_nonneg, plB]
                        refine LoopNext.intro (y + 1, true, ism N t s (ltM most) d g []) ⟨by simp only; omega, by simp only [step, hX], by simp, fun _ => hnn⟩ (by simp only; omega) ⟨[((1,0),(1,0)), ((2,0),(2,0)), ((3,0),(3,0)), ((93,0),(50,0))], rfl, ?_, ?_⟩
                        · simp [wkEnv, lk, renV, renAt, renTo, renOut, lvN, wy]
                        · simp [wkMem, wkLoc, Mem.get, assoc, renBlk, renSegs, renSg, renTo, mmL, plB]
                  · have k2 : (usS N f).getD (0 + y * 1) 0 = 1 := by rw [Nat.zero_add, Nat.mul_one, usS_get (by omega), hu]; rfl
                    have hX := lexp_used (t := t) (s := s) hN hx hyN hfx hu
                    simp only [absE, absL, absF, reduceCtorEq, ↓reduceIte, Nat.reduceEqDiff, Nat.reduceAdd, Nat.reduceLT, Nat.reduceMul, Nat.reduceSub, Nat.reduceLeDiff, Int.reduceLT, Int.reduceLE, Int.reduceEq, Option.isSome_some, implies_true, false_implies, Prod.mk.injEq, ne_eq, not_false_eq_true, not_true_eq_false, ge_iff_le, gt_iff_lt, Int.toNat_natCast, Int.reduceToNat, Int.cast_ofNat_Int, Int.natCast_nonneg, h, hl, y10, y11, k2, lvN, mmL]
                    refine LoopNext.intro (y + 1, false, []) ⟨by simp only; omega, by simp only [step, hX], fun _ => rfl, by simp⟩ (by simp only; omega) ⟨[((1,0),(1,0)), ((2,0),(2,0)), ((3,0),(3,0))], rfl, ?_, ?_⟩
                    · simp [wkEnv, lk, renV, renAt, renTo, lvN, wy]
                    · simp [wkMem, wkLoc, Mem.get, assoc, renBlk, renSegs, renSg, renTo, mmL, plB]
                · have hst := stop (.inr (by first | omega | (simp; omega)))
                  simp only [absE, absL, absF, reduceCtorEq, ↓reduceIte, Nat.reduceEqDiff, Nat.reduceAdd, Nat.reduceLT, Nat.reduceMul, Nat.reduceSub, Nat.reduceLeDiff, Int.reduceLT, Int.reduceLE, Int.reduceEq, Option.isSome_some, implies_true, false_implies, Prod.mk.injEq, ne_eq, not_false_eq_true, not_true_eq_false, ge_iff_le, gt_iff_lt, Int.toNat_natCast, Int.reduceToNat, Int.cast_ofNat_Int, Int.natCast_nonneg, h, hl, lvN, mmL, Try.results111]
                  exact ⟨[], by simp, by simp, by rw [hst]; exact .inl ⟨hc' rfl, by simp [renV, renAt], by simp, by simp⟩⟩
              · have hst := stop (.inl (by omega))
                simp only [absE, absL, absF, reduceCtorEq, ↓reduceIte, Nat.reduceEqDiff, Nat.reduceAdd, Nat.reduceLT, Nat.reduceMul, Nat.reduceSub, Nat.reduceLeDiff, Int.reduceLT, Int.reduceLE, Int.reduceEq, Option.isSome_some, implies_true, false_implies, Prod.mk.injEq, ne_eq, not_false_eq_true, not_true_eq_false, ge_iff_le, gt_iff_lt, Int.toNat_natCast, Int.reduceToNat, Int.cast_ofNat_Int, Int.natCast_nonneg, h, lvN, mmL, Try.results111]
                exact ⟨[], by simp, by simp, by rw [hst]; exact .inl ⟨hc' rfl, by simp [renV, renAt], by simp, by simp⟩⟩
            · skip
              by_cases h : (y : Int) < N
              · have wy := wrap_i64s (show y < 2 ^ 62 by omega)
                have hyN : y < N := by omega
                have y10 : (y : Int) < 10 := by omega
                have y11 : 0 + y * 1 < 10 := by omega
                by_cases hl : ((L'.length : Nat) : Int) < most
                · have hlt : (L' : List (List Int)).length < most := by first | omega | (simp; omega)
                  have step := step hlt
                  cases hu : usd N f y
                  · have k2 : (usS N f).getD (0 + y * 1) 0 = 0 := by rw [Nat.zero_add, Nat.mul_one, usS_get (by omega), hu]; rfl
                    have hX := clo_lexp (d := N) (a := x) (b := y) hN hN st ss hf hx hyN (by omega)
                    have hC := l02Close_ok N t s ht hs st ss N f x y ⟨hf.pm, hf.inj⟩ hx hyN (by omega)
                    generalize clo true N t s N f x y = r at hX hC
                    obtain ⟨g, ok⟩ := r
                    simp only [absE, absL, absF, reduceCtorEq, ↓reduceIte, Nat.reduceEqDiff, Nat.reduceAdd, Nat.reduceLT, Nat.reduceMul, Nat.reduceSub, Nat.reduceLeDiff, Int.reduceLT, Int.reduceLE, Int.reduceEq, Option.isSome_some, implies_true, false_implies, Prod.mk.injEq, ne_eq, not_false_eq_true, not_true_eq_false, ge_iff_le, gt_iff_lt, Int.toNat_natCast, Int.reduceToNat, Int.cast_ofNat_Int, Int.natCast_nonneg, h, hl, y10, y11, k2, lvN, mmL]
                    refine CallsVia.none hC ?_
                    rintro _ _ _ ⟨rfl, rfl, rfl⟩
                    cases ok
                    · have hX : lexp true N N t s f x y = none := hX
                      simp only [absE, absL, absF, reduceCtorEq, ↓reduceIte, Nat.reduceEqDiff, Nat.reduceAdd, Nat.reduceLT, Nat.reduceMul, Nat.reduceSub, Nat.reduceLeDiff, Int.reduceLT, Int.reduceLE, Int.reduceEq, Option.isSome_some, implies_true, false_implies, Prod.mk.injEq, ne_eq, not_false_eq_true, not_true_eq_false, ge_iff_le, gt_iff_lt, Int.toNat_natCast, Int.reduceToNat, Int.cast_ofNat_Int, Int.natCast_nonneg]
                      refine LoopNext.intro (y + 1, true, L') ⟨by simp only; omega, by simp only [step, hX], by simp, hne⟩ (by simp only; omega) ⟨[((1,0),(1,0)), ((2,0),(2,0)), ((3,0),(3,0)), ((50,0),(50,0))], rfl, ?_, ?_⟩
                      · simp [wkEnv, lk, renV, renAt, renTo, lvN, wy]
                      · simp [wkMem, wkLoc, Mem.get, assoc, renBlk, renSegs, renSg, renTo, mmL, plB]
                    · have hX : lexp true N N t s f x y = some g := hX
                      have hLE := lexp_le hX
                      have hgood := hLE.good
                      have hcg : N < cntL g N + d := by have := le_cnt hN hx hyN hfx hLE; omega
                      simp only [absE, absL, absF, reduceCtorEq, ↓reduceIte, Nat.reduceEqDiff, Nat.reduceAdd, Nat.reduceLT, Nat.reduceMul, Nat.reduceSub, Nat.reduceLeDiff, Int.reduceLT, Int.reduceLE, Int.reduceEq, Option.isSome_some, implies_true, false_implies, Prod.mk.injEq, ne_eq, not_false_eq_true, not_true_eq_false, ge_iff_le, gt_iff_lt, Int.toNat_natCast, Int.reduceToNat, Int.cast_ofNat_Int, Int.natCast_nonneg]
                      refine CallsVia.args [(50, 0)] (mapsB_ok N t s most ht hs st ss hm0 hm d g L' hgood hcg hlt) (by simp) (by simp [Mem.get, assoc, plB]) rfl (by simp [argBlks, Mem.get, assoc, plB, renBlk, renSegs, renSg]) ?_
                      rintro _ _ _ (⟨hsame, rfl, rfl, rfl⟩ | ⟨hnn, rfl, rfl, rfl⟩)
                      · simp only [absE, absL, absF, reduceCtorEq, ↓reduceIte, Nat.reduceEqDiff, Nat.reduceAdd, Nat.reduceLT, Nat.reduceMul, Nat.reduceSub, Nat.reduceLeDiff, Int.reduceLT, Int.reduceLE, Int.reduceEq, Option.isSome_some, implies_true, false_implies, Prod.mk.injEq, ne_eq, not_false_eq_true, not_true_eq_false, ge_iff_le, gt_iff_lt, Int.toNat_natCast, Int.reduceToNat, Int.cast_ofNat_Int, Int.natCast_nonneg, plB]
                        refine LoopNext.intro (y + 1, true, L') ⟨by simp only; omega, by simp only [step, hX]; exact hsame.symm, by simp, hne⟩ (by simp only; omega) ⟨[((1,0),(1,0)), ((2,0),(2,0)), ((3,0),(3,0)), ((50,0),(50,0))], rfl, ?_, ?_⟩
                        · simp [wkEnv, lk, renV, renAt, renTo, renOut, lvN, wy]
                        · simp [wkMem, wkLoc, Mem.get, assoc, renBlk, renSegs, renSg, renTo, mmL, plB]
                      · simp only [absE, absL, absF, reduceCtorEq, ↓reduceIte, Nat.reduceEqDiff, Nat.reduceAdd, Nat.reduceLT, Nat.reduceMul, Nat.reduceSub, Nat.reduceLeDiff, Int.reduceLT, Int.reduceLE, Int.reduceEq, Option.isSome_some, implies_true, false_implies, Prod.mk.injEq, ne_eq, not_false_eq_true, not_true_eq_false, ge_iff_le, gt_iff_lt, Int.toNat_natCast, Int.reduceToNat, Int.cast_ofNat_Int, Int.natCast_nonneg, plB]
                        refine LoopNext.intro (y + 1, true, ism N t s (ltM most) d g L') ⟨by simp only; omega, by simp only [step, hX], by simp, fun _ => hnn⟩ (by simp only; omega) ⟨[((1,0),(1,0)), ((2,0),(2,0)), ((3,0),(3,0)), ((93,0),(50,0))], rfl, ?_, ?_⟩
                        · simp [wkEnv, lk, renV, renAt, renTo, renOut, lvN, wy]
                        · simp [wkMem, wkLoc, Mem.get, assoc, renBlk, renSegs, renSg, renTo, mmL, plB]
                  · have k2 : (usS N f).getD (0 + y * 1) 0 = 1 := by rw [Nat.zero_add, Nat.mul_one, usS_get (by omega), hu]; rfl
                    have hX := lexp_used (t := t) (s := s) hN hx hyN hfx hu
                    simp only [absE, absL, absF, reduceCtorEq, ↓reduceIte, Nat.reduceEqDiff, Nat.reduceAdd, Nat.reduceLT, Nat.reduceMul, Nat.reduceSub, Nat.reduceLeDiff, Int.reduceLT, Int.reduceLE, Int.reduceEq, Option.isSome_some, implies_true, false_implies, Prod.mk.injEq, ne_eq, not_false_eq_true, not_true_eq_false, ge_iff_le, gt_iff_lt, Int.toNat_natCast, Int.reduceToNat, Int.cast_ofNat_Int, Int.natCast_nonneg, h, hl, y10, y11, k2, lvN, mmL]
                    refine LoopNext.intro (y + 1, true, L') ⟨by simp only; omega, by simp only [step, hX], by simp, hne⟩ (by simp only; omega) ⟨[((1,0),(1,0)), ((2,0),(2,0)), ((3,0),(3,0)), ((50,0),(50,0))], rfl, ?_, ?_⟩
                    · simp [wkEnv, lk, renV, renAt, renTo, lvN, wy]
                    · simp [wkMem, wkLoc, Mem.get, assoc, renBlk, renSegs, renSg, renTo, mmL, plB]
                · have hst := stop (.inr (by first | omega | (simp; omega)))
                  simp only [absE, absL, absF, reduceCtorEq, ↓reduceIte, Nat.reduceEqDiff, Nat.reduceAdd, Nat.reduceLT, Nat.reduceMul, Nat.reduceSub, Nat.reduceLeDiff, Int.reduceLT, Int.reduceLE, Int.reduceEq, Option.isSome_some, implies_true, false_implies, Prod.mk.injEq, ne_eq, not_false_eq_true, not_true_eq_false, ge_iff_le, gt_iff_lt, Int.toNat_natCast, Int.reduceToNat, Int.cast_ofNat_Int, Int.natCast_nonneg, h, hl, lvN, mmL, Try.results111]
                  exact ⟨[(50, 0)], by simp, by simp, by rw [hst]; exact .inr ⟨hne rfl, by simp [renV, renAt, renFin, idx], by simp, by simp [plB, Mem.get, assoc, renBlk, renSegs, renSg]⟩⟩
              · have hst := stop (.inl (by omega))
                simp only [absE, absL, absF, reduceCtorEq, ↓reduceIte, Nat.reduceEqDiff, Nat.reduceAdd, Nat.reduceLT, Nat.reduceMul, Nat.reduceSub, Nat.reduceLeDiff, Int.reduceLT, Int.reduceLE, Int.reduceEq, Option.isSome_some, implies_true, false_implies, Prod.mk.injEq, ne_eq, not_false_eq_true, not_true_eq_false, ge_iff_le, gt_iff_lt, Int.toNat_natCast, Int.reduceToNat, Int.cast_ofNat_Int, Int.natCast_nonneg, h, lvN, mmL, Try.results111]
                exact ⟨[(50, 0)], by simp, by simp, by rw [hst]; exact .inr ⟨hne rfl, by simp [renV, renAt, renFin, idx], by simp, by simp [plB, Mem.get, assoc, renBlk, renSegs, renSg]⟩⟩
        · have k1 : (toS f).getD (0 + x * 1) 0 = ((pl f x : Nat) : Int) := by rw [Nat.zero_add, Nat.mul_one, toS_get (by omega), if_neg (hbe x (by omega))]
          simp only [absE, absL, absF, reduceCtorEq, ↓reduceIte, Nat.reduceEqDiff, Nat.reduceAdd, Nat.reduceLT, Nat.reduceMul, Nat.reduceSub, Nat.reduceLeDiff, Int.reduceLT, Int.reduceLE, Int.reduceEq, Option.isSome_some, implies_true, false_implies, Prod.mk.injEq, ne_eq, not_false_eq_true, not_true_eq_false, ge_iff_le, gt_iff_lt, Int.toNat_natCast, Int.reduceToNat, Int.cast_ofNat_Int, Int.natCast_nonneg, x10, x11, k1]
          refine LoopNext.intro (x + 1) (by omega) (by omega) ⟨[((1,0),(1,0)), ((2,0),(2,0)), ((3,0),(3,0))], rfl, ?_, ?_⟩
          · simp [wkEnv, lk, renV, renAt, renTo, w]
          · simp [wkMem, wkLoc, Mem.get, assoc, renBlk, renSegs, renSg, renTo, w]

end Go.Proofs.Ytgblnnodoabdeaa

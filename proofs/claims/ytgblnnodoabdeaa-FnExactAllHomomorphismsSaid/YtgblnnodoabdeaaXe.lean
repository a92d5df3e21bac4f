/-
Contracts of functions of the given program, by the abstract walk.
-/
import Derived.Test.YtgblnnodoabdeaaAbsY
import Derived.Test.YtgblnnodoabdeaaXb
import Derived.Test.YtgblnnodoabdeaaXd
namespace Go.Proofs.Ytgblnnodoabdeaa
open Go Go.Abs
set_option linter.unusedVariables false
set_option linter.unusedSectionVars false
set_option linter.unusedSimpArgs false
set_option maxRecDepth 100000
/-! homomorphisms: the list of all, plain; the reference's search -/
section
variable (N M : Nat) (t s : List Int) (lim : Nat → Bool)
noncomputable def hmIn (rec : List Int → Nat → LLs) (f : List Int) (x n : Nat) : Nat → LLs
  | 0 => []
  | y + 1 => if lim (n + (hmIn rec f x n y).length) then (match lexp false N M t s f x y with | some g => hmIn rec f x n y ++ rec g (n + (hmIn rec f x n y).length) | none => hmIn rec f x n y) else hmIn rec f x n y
def rowH (f : List Int) : List Int := (List.range N).map fun i => ((pl f i : Nat) : Int)
noncomputable def hsm : Nat → List Int → Nat → LLs
  | 0, _, _ => []
  | d + 1, f, n => if fnd (pl f) 255 N < N then hmIn N M t s lim (hsm d) f (fnd (pl f) 255 N) n M else [rowH N f]
end
def leM (k : Nat) : Bool := decide (k ≤ 2000)
theorem hmIn_stop {N M : Nat} {t s : List Int} {lim : Nat → Bool} {rec : List Int → Nat → LLs} {f : List Int} {x n y : Nat} (h : lim (n + (hmIn N M t s lim rec f x n y).length) = false) : ∀ {z}, y ≤ z → hmIn N M t s lim rec f x n z = hmIn N M t s lim rec f x n y
  | 0, hz => by obtain rfl : y = 0 := by omega
                rfl
  | z + 1, hz => by
    by_cases e : y = z + 1
    · rw [e]
    · have ih := hmIn_stop h (z := z) (by omega)
      rw [hmIn, ih, h]; rfl
theorem hmIn_len {N M : Nat} {t s : List Int} {rec : List Int → Nat → LLs} (hr : ∀ g n, n ≤ 2000 → n + (rec g n).length ≤ 2001) {f : List Int} {x n : Nat} (hn : n ≤ 2001) : ∀ {y}, n + (hmIn N M t s leM rec f x n y).length ≤ 2001
  | 0 => by simpa [hmIn] using hn
  | y + 1 => by
    have ih := hmIn_len (N := N) (M := M) (t := t) (s := s) hr (f := f) (x := x) hn (y := y)
    rw [hmIn]
    split
    · rename_i h
      have h : n + (hmIn N M t s leM rec f x n y).length ≤ 2000 := of_decide_eq_true h
      split
      · rename_i g _
        have := hr g _ h
        rw [List.length_append]; omega
      · exact ih
    · exact ih
theorem hsm_len {N M : Nat} {t s : List Int} : ∀ {d f n}, n ≤ 2000 → n + (hsm N M t s leM d f n).length ≤ 2001
  | 0, _, n, h => by rw [hsm]; simp; omega
  | d + 1, f, n, h => by
    rw [hsm]
    split
    · exact hmIn_len (fun g n hn => hsm_len hn) (by omega)
    · simp; omega
theorem rowH_len {N : Nat} {f : List Int} : (rowH N f).length = N := by simp [rowH]
theorem hsm_rows {N M : Nat} {t s : List Int} {lim : Nat → Bool} : ∀ {d f n}, ∀ p ∈ hsm N M t s lim d f n, p.length = N
  | 0, _, _, p, h => by simp [hsm] at h
  | d + 1, f, n, p, h => by
    rw [hsm] at h
    split at h
    · have key : ∀ y, ∀ p ∈ hmIn N M t s lim (hsm N M t s lim d) f (fnd (pl f) 255 N) n y, p.length = N := by
        intro y
        induction y with
        | zero => intro p h; simp [hmIn] at h
        | succ y ih =>
          intro p h
          rw [hmIn] at h
          split at h
          · split at h
            · rcases List.mem_append.1 h with h | h
              · exact ih p h
              · exact hsm_rows p h
            · exact ih p h
          · exact ih p h
      exact key M p h
    · simp at h; subst h; exact rowH_len
theorem rowH_take {N : Nat} {f : List Int} (hN : N ≤ 10) (hf : ∀ i, i < N → pl f i ≠ 255) : (toS f).take N = rowH N f := by
  refine ext_getD (by simp [toS, rowH]; omega) fun i hi => ?_
  have hi : i < N := by simp [toS] at hi; omega
  rw [List.getD_eq_getElem?_getD, List.getElem?_take, if_pos hi, ← List.getD_eq_getElem?_getD, toS_get (by omega), if_neg (hf i hi)]
  simp [rowH, hi]
theorem rowH_ten {f : List Int} (hf : ∀ i, i < 10 → pl f i ≠ 255) : toS f = rowH 10 f := by
  rw [← rowH_take (Nat.le_refl 10) hf]; exact (List.take_of_length_le (by rw [toS_len]; decide)).symm
theorem le_cnth {N M : Nat} {t s f g : List Int} {x y : Nat} (hM : M ≤ 10) (hx : x < N) (hy : y < M) (h : pl f x = 255) (hL : LE false N M t s f x y g) : cntL f N < cntL g N :=
  cnt_lt (x := x) (fun a ha hd => hL.ext.dm ha hd) hx h (by rw [hL.at_]; omega)
def mmH (cs : List Atom) (n : Nat) : Bool → LLs → List (Abs.Id × Blk)
  | false, _ => []
  | true, A => ((50, 0), .lv true [(0, .cells (n + A.length) (cs ++ outs 51 0 A))]) :: rbag 51 0 A
def hvN : Bool → LLs → AV
  | false, _ => .ref .nils
  | true, A => .ref (.sl 50 0 0 0 A.length 1)
def hvB (n : Nat) : Bool → LLs → AV
  | false, _ => .ref (.sl 0 0 0 0 n 1)
  | true, A => .ref (.sl 50 0 0 0 (n + A.length) 1)
def haB (cs : List Atom) (E : List Blk) (n : Nat) : Bool → List Blk
  | false => .lv true [(0, .cells n cs)] :: E
  | true => .dead :: E
def HRn (A : LLs) (v : AV) (ms ns : List Blk) : Prop :=
  (A = [] ∧ v = .ref .nils ∧ ms = [] ∧ ns = []) ∨ (A ≠ [] ∧ v = .ref (.sl 1 0 0 0 A.length 1) ∧ ms = [] ∧ ns = ob 1 1 A :: inn A)
theorem mapsHB_ok (N M : Nat) (t s : List Int) (ht : Bytes 100 t) (hs : Bytes 100 s) (st : SqP N t) (ss : SqP M s) : ∀ d (f : List Int) (n : Nat) (cs : List Atom) (E : List Blk), PGood false N M t s f → N < cntL f N + d → n ≤ 2000 → Opq 1 cs E →
    ACalls Try.prog 70 [.agg (sqS N t), .agg (sqS M s), .agg (thS f), .ref (.sl 0 0 0 0 n 1)] (.lv true [(0, .cells n cs)] :: E) (fun v ms ns => HRb cs E n (hsm N M t s leM d f n) v ms ns) := by
  have hN := st.le
  have hM := ss.le
  have hM1 := ss.pos
  intro d
  induction d with
  | zero => intro f n cs E _ h; have := cnt_le (f := f) (k := N); omega
  | succ d ih =>
    intro f n cs E hf hd hn hE
    have hc0 : ∀ σ : Pairs, cs.map (renAt (renTo σ)) = cs := fun σ => (hE.ren _ fun k _ _ => by cases σ <;> simp [renTo]).1
    have hE0 : ∀ σ : Pairs, E.map (renBlk (renTo σ)) = E := fun σ => (hE.ren _ fun k _ _ => by cases σ <;> simp [renTo]).2
    have hc1 : ∀ keep, cs.map (renAt (renFin keep)) = cs := fun keep => (hE.ren _ fun k _ _ => renFin_zero k).1
    have hE1 : ∀ keep, E.map (renBlk (renFin keep)) = E := fun keep => (hE.ren _ fun k _ _ => renFin_zero k).2
    have hXle : fnd (pl f) 255 N ≤ N := fnd_le
    have hbe : ∀ i, i < fnd (pl f) 255 N → pl f i ≠ 255 := fun i hi => fnd_none hi
    refine acalls_of_body mix Try.func70 rfl fok70 (Nat.le_of_ble_eq_true rfl) ?_
    unfold abody
    simp only [absE, absL, absF, reduceCtorEq, ↓reduceIte, Nat.reduceEqDiff, Nat.reduceAdd, Nat.reduceLT, Nat.reduceMul, Nat.reduceSub, Nat.reduceLeDiff, Int.reduceLT, Int.reduceLE, Int.reduceEq, Option.isSome_some, implies_true, false_implies, Prod.mk.injEq, ne_eq, not_false_eq_true, not_true_eq_false, ge_iff_le, gt_iff_lt, Int.toNat_natCast, Int.reduceToNat, Int.cast_ofNat_Int, Int.natCast_nonneg, Try.f70]
    refine awpLoop.intro (fun x : Nat => [(3, .ref (.sl 0 0 0 0 n 1)), (4, .ref (.ptr 1 0 0 0)), (5, .ref (.ptr 2 0 0 0)), (6, .ref (.ptr 3 0 0 0)), (8, .ref .nils), (9, .i .i64 x)]) (fun x => ⟨.lv true [(0, .cells n cs)] :: E, [((1, 0), .lv true (sqS N t)), ((2, 0), .lv true (sqS M s)), ((3, 0), .lv true (thS f))], 20⟩) (fun x => x ≤ fnd (pl f) 255 N) (fun x => fnd (pl f) 255 N - x) 0 (by omega) ⟨[((1,0),(1,0)), ((2,0),(2,0)), ((3,0),(3,0))], rfl, ?_, ?_⟩ ?_
    · simp [wkEnv, lk, renV, renAt, renTo]
    · simp only [wkMem, List.map_cons, List.map_nil, renBlk, renSegs, renSg, hc0, hE0]
      simp [wkLoc, Mem.get, assoc, renBlk, renSegs, renSg, renTo]
    · intro x hxX
      have x10 : (x : Int) < 10 ∨ x = 10 := by omega
      have w := wrap_i64s (show x < 2 ^ 62 by omega)
      by_cases hlt : x < fnd (pl f) 255 N
      · have h : (x : Int) < N := by omega
        have x10 : (x : Int) < 10 := by omega
        have x11 : 0 + x * 1 < 10 := by omega
        have k1 : (toS f).getD (0 + x * 1) 0 = ((pl f x : Nat) : Int) := by rw [Nat.zero_add, Nat.mul_one, toS_get (by omega), if_neg (hbe x hlt)]
        simp only [absE, absL, absF, reduceCtorEq, ↓reduceIte, Nat.reduceEqDiff, Nat.reduceAdd, Nat.reduceLT, Nat.reduceMul, Nat.reduceSub, Nat.reduceLeDiff, Int.reduceLT, Int.reduceLE, Int.reduceEq, Option.isSome_some, implies_true, false_implies, Prod.mk.injEq, ne_eq, not_false_eq_true, not_true_eq_false, ge_iff_le, gt_iff_lt, Int.toNat_natCast, Int.reduceToNat, Int.cast_ofNat_Int, Int.natCast_nonneg, h, x10, x11, k1]
        refine LoopNext.intro (x + 1) (by omega) (by omega) ⟨[((1,0),(1,0)), ((2,0),(2,0)), ((3,0),(3,0))], rfl, ?_, ?_⟩
        · simp [wkEnv, lk, renV, renAt, renTo, w]
        · simp only [wkMem, List.map_cons, List.map_nil, renBlk, renSegs, renSg, hc0, hE0]
          simp [wkLoc, Mem.get, assoc, renBlk, renSegs, renSg, renTo]
      · obtain hX : fnd (pl f) 255 N = x := by omega
        by_cases hxN : x < N
        · have hfx : pl f x = 255 := by rw [← hX]; exact fnd_at (by omega)
          have e1 : hsm N M t s leM (d + 1) f n = hmIn N M t s leM (hsm N M t s leM d) f x n M := by rw [hsm, if_pos (by omega), hX]
          rw [e1]
          have hlen := fun y => hmIn_len (N := N) (M := M) (t := t) (s := s) (rec := hsm N M t s leM d) (fun g n hn => hsm_len hn) (f := f) (x := x) (n := n) (by omega) (y := y)
          have h : (x : Int) < N := by omega
          have hne : ¬ (x : Int) = N := by omega
          have x10 : (x : Int) < 10 := by omega
          have x11 : 0 + x * 1 < 10 := by omega
          have k1 : (toS f).getD (0 + x * 1) 0 = -1 := by rw [Nat.zero_add, Nat.mul_one, toS_get (by omega), if_pos hfx]
          simp only [absE, absL, absF, reduceCtorEq, ↓reduceIte, Nat.reduceEqDiff, Nat.reduceAdd, Nat.reduceLT, Nat.reduceMul, Nat.reduceSub, Nat.reduceLeDiff, Int.reduceLT, Int.reduceLE, Int.reduceEq, Option.isSome_some, implies_true, false_implies, Prod.mk.injEq, ne_eq, not_false_eq_true, not_true_eq_false, ge_iff_le, gt_iff_lt, Int.toNat_natCast, Int.reduceToNat, Int.cast_ofNat_Int, Int.natCast_nonneg, h, hne, x10, x11, k1]
          refine awpLoop.intro (fun S : Nat × Bool × LLs => [(3, (hvB n S.2.1 S.2.2)), (4, .ref (.ptr 1 0 0 0)), (5, .ref (.ptr 2 0 0 0)), (6, .ref (.ptr 3 0 0 0)), (8, .ref .nils), (9, .i .i64 x), (10, .i .i64 S.1)]) (fun S => ⟨(haB cs E n S.2.1), [((1, 0), .lv true (sqS N t)), ((2, 0), .lv true (sqS M s)), ((3, 0), .lv true (thS f))] ++ mmH cs n S.2.1 S.2.2, 60⟩)
            (fun S => S.1 ≤ M ∧ S.2.2 = hmIn N M t s leM (hsm N M t s leM d) f x n S.1 ∧ (S.2.1 = false → S.2.2 = []) ∧ (S.2.1 = true → S.2.2 ≠ [])) (fun S => M - S.1) (0, false, []) ⟨by simp, rfl, fun _ => rfl, by simp⟩ ⟨[((1,0),(1,0)), ((2,0),(2,0)), ((3,0),(3,0))], rfl, ?_, ?_⟩ ?_
          · simp [wkEnv, lk, renV, renAt, renTo, hvB]
          · simp only [wkMem, List.map_cons, List.map_nil, renBlk, renSegs, renSg, hc0, hE0, haB]
            simp [wkLoc, Mem.get, assoc, renBlk, renSegs, renSg, renTo, mmH]
          · rintro ⟨y, c, A⟩ ⟨hy, hA, hc', hne⟩
            simp only at hy hA hc' hne
            have hln := hlen y
            rw [← hA] at hln
            have stop : (y = M ∨ ¬ n + A.length ≤ 2000) → hmIn N M t s leM (hsm N M t s leM d) f x n M = A := fun hh => by
              by_cases e : y = M
              · rw [hA, e]
              · rw [hmIn_stop (y := y) (by rw [← hA]; exact decide_eq_false (by omega)) hy, hA]
            have step : n + A.length ≤ 2000 → hmIn N M t s leM (hsm N M t s leM d) f x n (y + 1) = (match lexp false N M t s f x y with | some g => A ++ hsm N M t s leM d g (n + A.length) | none => A) := fun hh => by
              rw [hmIn, ← hA, if_pos (show leM (n + A.length) = true from decide_eq_true hh)]
            cases c
            · obtain rfl : A = [] := hc' rfl
              by_cases h : (y : Int) < M
              · have wy := wrap_i64s (show y < 2 ^ 62 by omega)
                have hyM : y < M := by omega
                have y10 : (y : Int) < 10 := by omega
                by_cases hl : ((n : Nat) : Int) ≤ 2000
                · have step := step (by simp only [List.length_nil]; omega)
                  have hX := clo_lexp (d := N) (a := x) (b := y) hN hM st ss hf hxN hyM (by omega)
                  have hC := l06Close_ok N M t s ht hs st ss N f x y ⟨hf.pm, hf.inj⟩ hxN hyM (by omega)
                  generalize clo false N t s N f x y = r at hX hC
                  obtain ⟨g, ok⟩ := r
                  simp only [absE, absL, absF, reduceCtorEq, ↓reduceIte, Nat.reduceEqDiff, Nat.reduceAdd, Nat.reduceLT, Nat.reduceMul, Nat.reduceSub, Nat.reduceLeDiff, Int.reduceLT, Int.reduceLE, Int.reduceEq, Option.isSome_some, implies_true, false_implies, Prod.mk.injEq, ne_eq, not_false_eq_true, not_true_eq_false, ge_iff_le, gt_iff_lt, Int.toNat_natCast, Int.reduceToNat, Int.cast_ofNat_Int, Int.natCast_nonneg, h, hl, hvB, mmH, haB]
                  refine CallsVia.none hC ?_
                  rintro _ _ _ ⟨rfl, rfl, rfl⟩
                  cases ok
                  · have hX : lexp false N M t s f x y = none := hX
                    rw [hX] at step
                    simp only at step
                    simp only [absE, absL, absF, reduceCtorEq, ↓reduceIte, Nat.reduceEqDiff, Nat.reduceAdd, Nat.reduceLT, Nat.reduceMul, Nat.reduceSub, Nat.reduceLeDiff, Int.reduceLT, Int.reduceLE, Int.reduceEq, Option.isSome_some, implies_true, false_implies, Prod.mk.injEq, ne_eq, not_false_eq_true, not_true_eq_false, ge_iff_le, gt_iff_lt, Int.toNat_natCast, Int.reduceToNat, Int.cast_ofNat_Int, Int.natCast_nonneg]
                    refine LoopNext.intro (y + 1, false, []) ⟨by simp only; omega, by simp only [step], fun _ => rfl, by simp⟩ (by simp only; omega) ⟨[((1,0),(1,0)), ((2,0),(2,0)), ((3,0),(3,0))], rfl, ?_, ?_⟩
                    · simp [wkEnv, lk, renV, renAt, renTo, hvB, wy]
                    · simp only [wkMem, List.map_cons, List.map_nil, renBlk, renSegs, renSg, hc0, hE0, haB]
                      simp [wkLoc, Mem.get, assoc, renBlk, renSegs, renSg, renTo, mmH]
                  · have hX : lexp false N M t s f x y = some g := hX
                    have hLE := lexp_le hX
                    have hgood := hLE.good
                    have hcg : N < cntL g N + d := by have := le_cnth hM hxN hyM hfx hLE; omega
                    rw [hX] at step
                    have hX2 := step
                    simp only [List.length_nil, Nat.add_zero] at hX2
                    simp only [absE, absL, absF, reduceCtorEq, ↓reduceIte, Nat.reduceEqDiff, Nat.reduceAdd, Nat.reduceLT, Nat.reduceMul, Nat.reduceSub, Nat.reduceLeDiff, Int.reduceLT, Int.reduceLE, Int.reduceEq, Option.isSome_some, implies_true, false_implies, Prod.mk.injEq, ne_eq, not_false_eq_true, not_true_eq_false, ge_iff_le, gt_iff_lt, Int.toNat_natCast, Int.reduceToNat, Int.cast_ofNat_Int, Int.natCast_nonneg]
                    have hS := ih g n cs E hgood hcg hn hE
                    generalize hsm N M t s leM d g n = A2 at hS hX2
                    refine CallsVia.hmaps0 (by decide) hE hS (fun σ hσ => by simp [renVs, renV, renAt, renSegs, renSg, hσ]) (fun h2 ups rd hu => ?_) (fun hnn ups rd hu => ?_)
                    · simp only [absE, absL, absF, reduceCtorEq, ↓reduceIte, Nat.reduceEqDiff, Nat.reduceAdd, Nat.reduceLT, Nat.reduceMul, Nat.reduceSub, Nat.reduceLeDiff, Int.reduceLT, Int.reduceLE, Int.reduceEq, Option.isSome_some, implies_true, false_implies, Prod.mk.injEq, ne_eq, not_false_eq_true, not_true_eq_false, ge_iff_le, gt_iff_lt, Int.toNat_natCast, Int.reduceToNat, Int.cast_ofNat_Int, Int.natCast_nonneg, hu]
                      refine LoopNext.intro (y + 1, false, []) ⟨by simp only; omega, by simp only [hX2, h2, List.append_nil], fun _ => rfl, by simp⟩ (by simp only; omega) ⟨[((1,0),(1,0)), ((2,0),(2,0)), ((3,0),(3,0))], rfl, ?_, ?_⟩
                      · simp [wkEnv, lk, renV, renAt, renTo, hvB, wy]
                      · simp only [wkMem, List.map_cons, List.map_nil, renBlk, renSegs, renSg, hc0, hE0, haB]
                        simp [wkLoc, Mem.get, assoc, renBlk, renSegs, renSg, renTo, mmH]
                    · simp only [absE, absL, absF, reduceCtorEq, ↓reduceIte, Nat.reduceEqDiff, Nat.reduceAdd, Nat.reduceLT, Nat.reduceMul, Nat.reduceSub, Nat.reduceLeDiff, Int.reduceLT, Int.reduceLE, Int.reduceEq, Option.isSome_some, implies_true, false_implies, Prod.mk.injEq, ne_eq, not_false_eq_true, not_true_eq_false, ge_iff_le, gt_iff_lt, Int.toNat_natCast, Int.reduceToNat, Int.cast_ofNat_Int, Int.natCast_nonneg, hu]
                      refine LoopNext.intro (y + 1, true, [] ++ A2) ⟨by simp only; omega, by simp only [hX2], by simp, by simp [hnn]⟩ (by simp only; omega) ⟨[((1, 0), (1, 0)), ((2, 0), (2, 0)), ((3, 0), (3, 0))] ++ ((86, 0), (50, 0)) :: growR 51 86 ([] : LLs).length (A2).length, wkOk_grow (next := 60) (A := []) (A2 := A2) (by simp [wkOk]) (by decide) (by decide) (by decide) (by decide) (by simp) (by simp) (by simp), ?_, ?_⟩
                      · simp [wkEnv, lk, renV, renAt, renTo, hvB, wy]; try omega
                      · simp only [wkMem, List.map_cons, List.map_nil, renBlk, renSegs, renSg, hc0, hE0, haB]
                        rw [wk_grow (A := []) (A2 := A2) (k := n + A2.length) (cs := cs) (by decide) (by decide) (by decide) (by simp) (by simp) (by simp only [Mem.get]; rw [if_neg (by decide), assoc_rbag_lt (by decide)]; simp [assoc, outs_nil, ob]) (fun σ hσ => (hE.ren σ fun k _ _ => hσ k).1) (fun j hj => absurd hj (by simp)) (fun j hj => by
                          simp only [Mem.get]
                          rw [if_neg (by decide), assoc_rbag_in hj])]
                        simp [wkLoc, Mem.get, assoc, assoc_rbag_ne, renBlk, renSegs, renSg, renTo, mmH, outs_nil]; try omega
                · have hst := stop (.inr (by first | omega | (simp only [List.length_nil]; omega)))
                  simp only [absE, absL, absF, reduceCtorEq, ↓reduceIte, Nat.reduceEqDiff, Nat.reduceAdd, Nat.reduceLT, Nat.reduceMul, Nat.reduceSub, Nat.reduceLeDiff, Int.reduceLT, Int.reduceLE, Int.reduceEq, Option.isSome_some, implies_true, false_implies, Prod.mk.injEq, ne_eq, not_false_eq_true, not_true_eq_false, ge_iff_le, gt_iff_lt, Int.toNat_natCast, Int.reduceToNat, Int.cast_ofNat_Int, Int.natCast_nonneg, h, hl, hvB, mmH, haB, Try.results70]
                  exact ⟨[], by simp, by simp, by rw [hst]; exact .inl ⟨rfl, by simp [renV, renAt, renFin], by simp [renBlk, renSegs, renSg, hc1, hE1], by simp⟩⟩
              · have hst := stop (.inl (by omega))
                simp only [absE, absL, absF, reduceCtorEq, ↓reduceIte, Nat.reduceEqDiff, Nat.reduceAdd, Nat.reduceLT, Nat.reduceMul, Nat.reduceSub, Nat.reduceLeDiff, Int.reduceLT, Int.reduceLE, Int.reduceEq, Option.isSome_some, implies_true, false_implies, Prod.mk.injEq, ne_eq, not_false_eq_true, not_true_eq_false, ge_iff_le, gt_iff_lt, Int.toNat_natCast, Int.reduceToNat, Int.cast_ofNat_Int, Int.natCast_nonneg, h, hvB, mmH, haB, Try.results70]
                exact ⟨[], by simp, by simp, by rw [hst]; exact .inl ⟨rfl, by simp [renV, renAt, renFin], by simp [renBlk, renSegs, renSg, hc1, hE1], by simp⟩⟩
            · skip
              by_cases h : (y : Int) < M
              · have wy := wrap_i64s (show y < 2 ^ 62 by omega)
                have hyM : y < M := by omega
                have y10 : (y : Int) < 10 := by omega
                by_cases hl : ((n + A.length : Nat) : Int) ≤ 2000
                · have step := step (by omega)
                  have hX := clo_lexp (d := N) (a := x) (b := y) hN hM st ss hf hxN hyM (by omega)
                  have hC := l06Close_ok N M t s ht hs st ss N f x y ⟨hf.pm, hf.inj⟩ hxN hyM (by omega)
                  generalize clo false N t s N f x y = r at hX hC
                  obtain ⟨g, ok⟩ := r
                  simp only [absE, absL, absF, reduceCtorEq, ↓reduceIte, Nat.reduceEqDiff, Nat.reduceAdd, Nat.reduceLT, Nat.reduceMul, Nat.reduceSub, Nat.reduceLeDiff, Int.reduceLT, Int.reduceLE, Int.reduceEq, Option.isSome_some, implies_true, false_implies, Prod.mk.injEq, ne_eq, not_false_eq_true, not_true_eq_false, ge_iff_le, gt_iff_lt, Int.toNat_natCast, Int.reduceToNat, Int.cast_ofNat_Int, Int.natCast_nonneg, h, hl, hvB, mmH, haB]
                  refine CallsVia.none hC ?_
                  rintro _ _ _ ⟨rfl, rfl, rfl⟩
                  cases ok
                  · have hX : lexp false N M t s f x y = none := hX
                    rw [hX] at step
                    simp only at step
                    simp only [absE, absL, absF, reduceCtorEq, ↓reduceIte, Nat.reduceEqDiff, Nat.reduceAdd, Nat.reduceLT, Nat.reduceMul, Nat.reduceSub, Nat.reduceLeDiff, Int.reduceLT, Int.reduceLE, Int.reduceEq, Option.isSome_some, implies_true, false_implies, Prod.mk.injEq, ne_eq, not_false_eq_true, not_true_eq_false, ge_iff_le, gt_iff_lt, Int.toNat_natCast, Int.reduceToNat, Int.cast_ofNat_Int, Int.natCast_nonneg]
                    refine LoopNext.intro (y + 1, true, A) ⟨by simp only; omega, by simp only [step], by simp, hne⟩ (by simp only; omega) ⟨[((1, 0), (1, 0)), ((2, 0), (2, 0)), ((3, 0), (3, 0))] ++ ((50, 0), (50, 0)) :: growR 51 86 A.length ([] : LLs).length, wkOk_grow (next := 60) (A := A) (A2 := []) (by simp [wkOk]) (by decide) (by decide) (by decide) (by decide) (by simp) (by simp) (by simp), ?_, ?_⟩
                    · simp [wkEnv, lk, renV, renAt, renTo, hvB, wy]
                    · simp only [wkMem, List.map_cons, List.map_nil, renBlk, renSegs, renSg, hc0, hE0, haB]
                      rw [wk_grow (A := A) (A2 := []) (k := n + A.length) (cs := cs) (by decide) (by decide) (by decide) (by simp) (by simp) (by simp only [Mem.get, assoc]; simp [outs_nil, assoc_rbag_ne, assoc]) (fun σ hσ => (hE.ren σ fun k _ _ => hσ k).1) (fun j hj => by
                        simp only [Mem.get, assoc]
                        simp
                        have q := assoc_rbag_in' (a := 51) (k := 0) (i := j) (LL := A) hj
                        rwa [Nat.zero_add] at q) (fun j hj => absurd hj (by simp))]
                      simp [wkLoc, Mem.get, assoc, assoc_rbag_ne, renBlk, renSegs, renSg, renTo, mmH, outs_nil]
                  · have hX : lexp false N M t s f x y = some g := hX
                    have hLE := lexp_le hX
                    have hgood := hLE.good
                    have hcg : N < cntL g N + d := by have := le_cnth hM hxN hyM hfx hLE; omega
                    rw [hX] at step
                    have hX2 := step
                    simp only [List.length_nil, Nat.add_zero] at hX2
                    simp only [absE, absL, absF, reduceCtorEq, ↓reduceIte, Nat.reduceEqDiff, Nat.reduceAdd, Nat.reduceLT, Nat.reduceMul, Nat.reduceSub, Nat.reduceLeDiff, Int.reduceLT, Int.reduceLE, Int.reduceEq, Option.isSome_some, implies_true, false_implies, Prod.mk.injEq, ne_eq, not_false_eq_true, not_true_eq_false, ge_iff_le, gt_iff_lt, Int.toNat_natCast, Int.reduceToNat, Int.cast_ofNat_Int, Int.natCast_nonneg]
                    have hS := ih g (n + A.length) (cs ++ outs 0 (1 + E.length) A) (E ++ inn A) hgood hcg (by omega) (hE.grow A)
                    rw [show hsm N M t s leM d g (n + A.length) = hsm N M t s leM d g (n + A.length) from rfl] at hS
                    skip
                    generalize hA2 : hsm N M t s leM d g (n + A.length) = A2 at hS
                    have hA2b := hA2
                    refine CallsVia.hmaps (aP := [.dead]) (E := E) (cs := cs) (A := A) (n := n) (O := 50) (B := 51) (nid := 86) (by decide) (by decide) (by decide) (by decide) (by simp) (by simp [assoc]) (fun j hj => by
                      simp only [assoc]
                      simp
                      have q := assoc_rbag_in' (a := 51) (k := 0) (i := j) (LL := A) hj
                      rwa [Nat.zero_add] at q) hE hS (fun σ hσ => by simp [renVs, renV, renAt, renSegs, renSg, hσ]) (fun h2 ups rd hu => ?_) (fun hnn ups rd hu => ?_)
                    · simp only [List.cons_append, List.nil_append] at hu
                      simp only [absE, absL, absF, reduceCtorEq, ↓reduceIte, Nat.reduceEqDiff, Nat.reduceAdd, Nat.reduceLT, Nat.reduceMul, Nat.reduceSub, Nat.reduceLeDiff, Int.reduceLT, Int.reduceLE, Int.reduceEq, Option.isSome_some, implies_true, false_implies, Prod.mk.injEq, ne_eq, not_false_eq_true, not_true_eq_false, ge_iff_le, gt_iff_lt, Int.toNat_natCast, Int.reduceToNat, Int.cast_ofNat_Int, Int.natCast_nonneg, hu]
                      refine LoopNext.intro (y + 1, true, A) ⟨by simp only; omega, by simp only [step,  hA2b, h2, List.append_nil], by simp, hne⟩ (by simp only; omega) ⟨[((1, 0), (1, 0)), ((2, 0), (2, 0)), ((3, 0), (3, 0))] ++ ((50, 0), (50, 0)) :: growR 51 86 A.length ([] : LLs).length, wkOk_grow (next := 60) (A := A) (A2 := []) (by simp [wkOk]) (by decide) (by decide) (by decide) (by decide) (by simp) (by simp) (by simp), ?_, ?_⟩
                      · simp [wkEnv, lk, renV, renAt, renTo, hvB, wy]
                      · simp only [wkMem, List.map_cons, List.map_nil, renBlk, renSegs, renSg, hc0, hE0, haB]
                        rw [wk_grow (A := A) (A2 := []) (k := n + A.length) (cs := cs) (by decide) (by decide) (by decide) (by simp) (by simp) (by simp only [Mem.get]; rw [if_neg (by decide), assoc_rbag_ne (by decide)]; simp [assoc, outs_nil]) (fun σ hσ => (hE.ren σ fun k _ _ => hσ k).1) (fun j hj => by
                          simp only [Mem.get]
                          rw [if_neg (by decide), assoc_rbag_in hj]) (fun j hj => absurd hj (by simp))]
                        simp [wkLoc, Mem.get, assoc, assoc_rbag_ne, renBlk, renSegs, renSg, renTo, mmH, outs_nil]
                    · simp only [List.cons_append, List.nil_append] at hu
                      simp only [absE, absL, absF, reduceCtorEq, ↓reduceIte, Nat.reduceEqDiff, Nat.reduceAdd, Nat.reduceLT, Nat.reduceMul, Nat.reduceSub, Nat.reduceLeDiff, Int.reduceLT, Int.reduceLE, Int.reduceEq, Option.isSome_some, implies_true, false_implies, Prod.mk.injEq, ne_eq, not_false_eq_true, not_true_eq_false, ge_iff_le, gt_iff_lt, Int.toNat_natCast, Int.reduceToNat, Int.cast_ofNat_Int, Int.natCast_nonneg, hu]
                      refine LoopNext.intro (y + 1, true, A ++ A2) ⟨by simp only; omega, by simp only [step,  hA2b], by simp, by simp [hnn]⟩ (by simp only; omega) ⟨[((1, 0), (1, 0)), ((2, 0), (2, 0)), ((3, 0), (3, 0))] ++ ((86, 0), (50, 0)) :: growR 51 86 (A : LLs).length (A2).length, wkOk_grow (next := 60) (A := A) (A2 := A2) (by simp [wkOk]) (by decide) (by decide) (by decide) (by decide) (by simp) (by simp) (by simp), ?_, ?_⟩
                      · simp [wkEnv, lk, renV, renAt, renTo, hvB, wy]; try omega
                      · simp only [wkMem, List.map_cons, List.map_nil, renBlk, renSegs, renSg, hc0, hE0, haB]
                        rw [wk_grow (A := A) (A2 := A2) (k := n + A.length + A2.length) (cs := cs) (by decide) (by decide) (by decide) (by simp) (by simp) (by simp only [Mem.get]; rw [if_neg (by decide), assoc_rbag_lt (by decide)]; simp [assoc, outs_nil, ob]) (fun σ hσ => (hE.ren σ fun k _ _ => hσ k).1) (fun j hj => by simp only [Mem.get]; rw [if_neg (by decide), assoc_rbag_ne (by decide), assoc, if_neg (by simp), assoc_rbag_in hj]) (fun j hj => by
                          simp only [Mem.get]
                          rw [if_neg (by decide), assoc_rbag_in hj])]
                        simp [wkLoc, Mem.get, assoc, assoc_rbag_ne, renBlk, renSegs, renSg, renTo, mmH, outs_nil]; try omega
                · have hst := stop (.inr (by first | omega | (simp only [List.length_nil]; omega)))
                  simp only [absE, absL, absF, reduceCtorEq, ↓reduceIte, Nat.reduceEqDiff, Nat.reduceAdd, Nat.reduceLT, Nat.reduceMul, Nat.reduceSub, Nat.reduceLeDiff, Int.reduceLT, Int.reduceLE, Int.reduceEq, Option.isSome_some, implies_true, false_implies, Prod.mk.injEq, ne_eq, not_false_eq_true, not_true_eq_false, ge_iff_le, gt_iff_lt, Int.toNat_natCast, Int.reduceToNat, Int.cast_ofNat_Int, Int.natCast_nonneg, h, hl, hvB, mmH, haB, Try.results70]
                  exact ⟨(50, 0) :: srcs 51 0 A.length, row_nodup (.inl (by decide)), row_keep (by decide) (by decide), by rw [hst]; exact .inr ⟨hne rfl, by simp [renV, renAt, renFin, idx], by simp [renBlk, hE1], hfin (p := (50, 0)) (B := 51) (A := A) (cs := cs) (by decide) (by decide) (by simp [Mem.get, assoc]) (fun j hj => by simp only [Mem.get, assoc]; simp; have q := assoc_rbag_in' (a := 51) (k := 0) (i := j) (LL := A) hj; rwa [Nat.zero_add] at q) hc1⟩⟩
              · have hst := stop (.inl (by omega))
                simp only [absE, absL, absF, reduceCtorEq, ↓reduceIte, Nat.reduceEqDiff, Nat.reduceAdd, Nat.reduceLT, Nat.reduceMul, Nat.reduceSub, Nat.reduceLeDiff, Int.reduceLT, Int.reduceLE, Int.reduceEq, Option.isSome_some, implies_true, false_implies, Prod.mk.injEq, ne_eq, not_false_eq_true, not_true_eq_false, ge_iff_le, gt_iff_lt, Int.toNat_natCast, Int.reduceToNat, Int.cast_ofNat_Int, Int.natCast_nonneg, h, hvB, mmH, haB, Try.results70]
                exact ⟨(50, 0) :: srcs 51 0 A.length, row_nodup (.inl (by decide)), row_keep (by decide) (by decide), by rw [hst]; exact .inr ⟨hne rfl, by simp [renV, renAt, renFin, idx], by simp [renBlk, hE1], hfin (p := (50, 0)) (B := 51) (A := A) (cs := cs) (by decide) (by decide) (by simp [Mem.get, assoc]) (fun j hj => by simp only [Mem.get, assoc]; simp; have q := assoc_rbag_in' (a := 51) (k := 0) (i := j) (LL := A) hj; rwa [Nat.zero_add] at q) hc1⟩⟩
        · obtain rfl : x = N := by omega
          have hfull : hsm x M t s leM (d + 1) f n = [rowH x f] := by rw [hsm, if_neg (by omega)]
          have h : ¬ (x : Int) < x := by omega
          have hall : ∀ i, i < x → pl f i ≠ 255 := fun i hi => hbe i (by omega)
          rw [hfull]
          have hxx : (x : Int) ≤ 10 := by omega
          have x1 : x * 1 = x := Nat.mul_one x
          have xs0 : x - 0 = x := rfl
          have xz0 : 0 + x = x := Nat.zero_add x
          have er0 : (toS f).drop 0 = toS f := rfl
          have n1 : n * 1 = n := Nat.mul_one n
          by_cases h10 : x = 10
          · subst h10
            have er := rowH_ten hall
            simp only [absE, absL, absF, reduceCtorEq, ↓reduceIte, Nat.reduceEqDiff, Nat.reduceAdd, Nat.reduceLT, Nat.reduceMul, Nat.reduceSub, Nat.reduceLeDiff, Int.reduceLT, Int.reduceLE, Int.reduceEq, Option.isSome_some, implies_true, false_implies, Prod.mk.injEq, ne_eq, not_false_eq_true, not_true_eq_false, ge_iff_le, gt_iff_lt, Int.toNat_natCast, Int.reduceToNat, Int.cast_ofNat_Int, Int.natCast_nonneg, h, er, n1]
            repeat refine And.intro (by omega) ?_
            simp only [absE, absL, absF, reduceCtorEq, ↓reduceIte, Nat.reduceEqDiff, Nat.reduceAdd, Nat.reduceLT, Nat.reduceMul, Nat.reduceSub, Nat.reduceLeDiff, Int.reduceLT, Int.reduceLE, Int.reduceEq, Option.isSome_some, implies_true, false_implies, Prod.mk.injEq, ne_eq, not_false_eq_true, not_true_eq_false, ge_iff_le, gt_iff_lt, Int.toNat_natCast, Int.reduceToNat, Int.cast_ofNat_Int, Int.natCast_nonneg, n1, Try.results70]
            exact ⟨[(41, 0), (39, 0)], by simp, by simp, .inr ⟨by simp, by simp [renV, renAt, renFin, idx], by simp [renBlk, hE1], by simp [Mem.get, assoc, renBlk, renSegs, renSg, hc1, renAt, renFin, idx, outs, inn, at_, ib, ob, rowH_len, er]⟩⟩
          · have er := rowH_take hN hall
            simp only [absE, absL, absF, reduceCtorEq, ↓reduceIte, Nat.reduceEqDiff, Nat.reduceAdd, Nat.reduceLT, Nat.reduceMul, Nat.reduceSub, Nat.reduceLeDiff, Int.reduceLT, Int.reduceLE, Int.reduceEq, Option.isSome_some, implies_true, false_implies, Prod.mk.injEq, ne_eq, not_false_eq_true, not_true_eq_false, ge_iff_le, gt_iff_lt, Int.toNat_natCast, Int.reduceToNat, Int.cast_ofNat_Int, Int.natCast_nonneg, h, hxx, h10, x1, xs0, xz0, n1]
            repeat refine And.intro (by omega) ?_
            simp only [absE, absL, absF, reduceCtorEq, ↓reduceIte, Nat.reduceEqDiff, Nat.reduceAdd, Nat.reduceLT, Nat.reduceMul, Nat.reduceSub, Nat.reduceLeDiff, Int.reduceLT, Int.reduceLE, Int.reduceEq, Option.isSome_some, implies_true, false_implies, Prod.mk.injEq, ne_eq, not_false_eq_true, not_true_eq_false, ge_iff_le, gt_iff_lt, Int.toNat_natCast, Int.reduceToNat, Int.cast_ofNat_Int, Int.natCast_nonneg, n1, Try.results70]
            exact ⟨[(41, 0), (39, 0)], by simp, by simp, .inr ⟨by simp, by simp [renV, renAt, renFin, idx], by simp [renBlk, hE1], by simp [Mem.get, assoc, renBlk, renSegs, renSg, hc1, renAt, renFin, idx, outs, inn, at_, ib, ob, rowH_len, er]⟩⟩
theorem mapsHN_ok (N M : Nat) (t s : List Int) (ht : Bytes 100 t) (hs : Bytes 100 s) (st : SqP N t) (ss : SqP M s) : ∀ d (f : List Int), PGood false N M t s f → N < cntL f N + d →
    ACalls Try.prog 70 [.agg (sqS N t), .agg (sqS M s), .agg (thS f), .ref .nils] ([]) (fun v ms ns => HRn (hsm N M t s leM d f 0) v ms ns) := by
  have hN := st.le
  have hM := ss.le
  have hM1 := ss.pos
  intro d
  induction d with
  | zero => intro f _ h; have := cnt_le (f := f) (k := N); omega
  | succ d ih =>
    intro f hf hd
    have hXle : fnd (pl f) 255 N ≤ N := fnd_le
    have hbe : ∀ i, i < fnd (pl f) 255 N → pl f i ≠ 255 := fun i hi => fnd_none hi
    refine acalls_of_body mix Try.func70 rfl fok70 (Nat.le_of_ble_eq_true rfl) ?_
    unfold abody
    simp only [absE, absL, absF, reduceCtorEq, ↓reduceIte, Nat.reduceEqDiff, Nat.reduceAdd, Nat.reduceLT, Nat.reduceMul, Nat.reduceSub, Nat.reduceLeDiff, Int.reduceLT, Int.reduceLE, Int.reduceEq, Option.isSome_some, implies_true, false_implies, Prod.mk.injEq, ne_eq, not_false_eq_true, not_true_eq_false, ge_iff_le, gt_iff_lt, Int.toNat_natCast, Int.reduceToNat, Int.cast_ofNat_Int, Int.natCast_nonneg, Try.f70]
    refine awpLoop.intro (fun x : Nat => [(3, .ref .nils), (4, .ref (.ptr 1 0 0 0)), (5, .ref (.ptr 2 0 0 0)), (6, .ref (.ptr 3 0 0 0)), (8, .ref .nils), (9, .i .i64 x)]) (fun x => ⟨[], [((1, 0), .lv true (sqS N t)), ((2, 0), .lv true (sqS M s)), ((3, 0), .lv true (thS f))], 20⟩) (fun x => x ≤ fnd (pl f) 255 N) (fun x => fnd (pl f) 255 N - x) 0 (by omega) ⟨[((1,0),(1,0)), ((2,0),(2,0)), ((3,0),(3,0))], rfl, ?_, ?_⟩ ?_
    · simp [wkEnv, lk, renV, renAt, renTo]
    · simp only [wkMem, List.map_cons, List.map_nil, renBlk, renSegs, renSg]
      simp [wkLoc, Mem.get, assoc, renBlk, renSegs, renSg, renTo]
    · intro x hxX
      have x10 : (x : Int) < 10 ∨ x = 10 := by omega
      have w := wrap_i64s (show x < 2 ^ 62 by omega)
      by_cases hlt : x < fnd (pl f) 255 N
      · have h : (x : Int) < N := by omega
        have x10 : (x : Int) < 10 := by omega
        have x11 : 0 + x * 1 < 10 := by omega
        have k1 : (toS f).getD (0 + x * 1) 0 = ((pl f x : Nat) : Int) := by rw [Nat.zero_add, Nat.mul_one, toS_get (by omega), if_neg (hbe x hlt)]
        simp only [absE, absL, absF, reduceCtorEq, ↓reduceIte, Nat.reduceEqDiff, Nat.reduceAdd, Nat.reduceLT, Nat.reduceMul, Nat.reduceSub, Nat.reduceLeDiff, Int.reduceLT, Int.reduceLE, Int.reduceEq, Option.isSome_some, implies_true, false_implies, Prod.mk.injEq, ne_eq, not_false_eq_true, not_true_eq_false, ge_iff_le, gt_iff_lt, Int.toNat_natCast, Int.reduceToNat, Int.cast_ofNat_Int, Int.natCast_nonneg, h, x10, x11, k1]
        refine LoopNext.intro (x + 1) (by omega) (by omega) ⟨[((1,0),(1,0)), ((2,0),(2,0)), ((3,0),(3,0))], rfl, ?_, ?_⟩
        · simp [wkEnv, lk, renV, renAt, renTo, w]
        · simp only [wkMem, List.map_cons, List.map_nil, renBlk, renSegs, renSg]
          simp [wkLoc, Mem.get, assoc, renBlk, renSegs, renSg, renTo]
      · obtain hX : fnd (pl f) 255 N = x := by omega
        by_cases hxN : x < N
        · have hfx : pl f x = 255 := by rw [← hX]; exact fnd_at (by omega)
          have e1 : hsm N M t s leM (d + 1) f 0 = hmIn N M t s leM (hsm N M t s leM d) f x 0 M := by rw [hsm, if_pos (by omega), hX]
          rw [e1]
          have hlen := fun y => hmIn_len (N := N) (M := M) (t := t) (s := s) (rec := hsm N M t s leM d) (fun g n hn => hsm_len hn) (f := f) (x := x) (n := 0) (by omega) (y := y)
          have h : (x : Int) < N := by omega
          have hne : ¬ (x : Int) = N := by omega
          have x10 : (x : Int) < 10 := by omega
          have x11 : 0 + x * 1 < 10 := by omega
          have k1 : (toS f).getD (0 + x * 1) 0 = -1 := by rw [Nat.zero_add, Nat.mul_one, toS_get (by omega), if_pos hfx]
          simp only [absE, absL, absF, reduceCtorEq, ↓reduceIte, Nat.reduceEqDiff, Nat.reduceAdd, Nat.reduceLT, Nat.reduceMul, Nat.reduceSub, Nat.reduceLeDiff, Int.reduceLT, Int.reduceLE, Int.reduceEq, Option.isSome_some, implies_true, false_implies, Prod.mk.injEq, ne_eq, not_false_eq_true, not_true_eq_false, ge_iff_le, gt_iff_lt, Int.toNat_natCast, Int.reduceToNat, Int.cast_ofNat_Int, Int.natCast_nonneg, h, hne, x10, x11, k1]
          refine awpLoop.intro (fun S : Nat × Bool × LLs => [(3, (hvN S.2.1 S.2.2)), (4, .ref (.ptr 1 0 0 0)), (5, .ref (.ptr 2 0 0 0)), (6, .ref (.ptr 3 0 0 0)), (8, .ref .nils), (9, .i .i64 x), (10, .i .i64 S.1)]) (fun S => ⟨[], [((1, 0), .lv true (sqS N t)), ((2, 0), .lv true (sqS M s)), ((3, 0), .lv true (thS f))] ++ mmH [] 0 S.2.1 S.2.2, 60⟩)
            (fun S => S.1 ≤ M ∧ S.2.2 = hmIn N M t s leM (hsm N M t s leM d) f x 0 S.1 ∧ (S.2.1 = false → S.2.2 = []) ∧ (S.2.1 = true → S.2.2 ≠ [])) (fun S => M - S.1) (0, false, []) ⟨by simp, rfl, fun _ => rfl, by simp⟩ ⟨[((1,0),(1,0)), ((2,0),(2,0)), ((3,0),(3,0))], rfl, ?_, ?_⟩ ?_
          · simp [wkEnv, lk, renV, renAt, renTo, hvN]
          · simp only [wkMem, List.map_cons, List.map_nil, renBlk, renSegs, renSg]
            simp [wkLoc, Mem.get, assoc, renBlk, renSegs, renSg, renTo, mmH]
          · rintro ⟨y, c, A⟩ ⟨hy, hA, hc', hne⟩
            simp only at hy hA hc' hne
            have hln := hlen y
            rw [← hA] at hln
            have stop : (y = M ∨ ¬ 0 + A.length ≤ 2000) → hmIn N M t s leM (hsm N M t s leM d) f x 0 M = A := fun hh => by
              by_cases e : y = M
              · rw [hA, e]
              · rw [hmIn_stop (y := y) (by rw [← hA]; exact decide_eq_false (by omega)) hy, hA]
            have step : 0 + A.length ≤ 2000 → hmIn N M t s leM (hsm N M t s leM d) f x 0 (y + 1) = (match lexp false N M t s f x y with | some g => A ++ hsm N M t s leM d g (0 + A.length) | none => A) := fun hh => by
              rw [hmIn, ← hA, if_pos (show leM (0 + A.length) = true from decide_eq_true hh)]
            cases c
            · obtain rfl : A = [] := hc' rfl
              by_cases h : (y : Int) < M
              · have wy := wrap_i64s (show y < 2 ^ 62 by omega)
                have hyM : y < M := by omega
                have y10 : (y : Int) < 10 := by omega
                by_cases hl : True
                · have step := step (by simp)
                  have hX := clo_lexp (d := N) (a := x) (b := y) hN hM st ss hf hxN hyM (by omega)
                  have hC := l06Close_ok N M t s ht hs st ss N f x y ⟨hf.pm, hf.inj⟩ hxN hyM (by omega)
                  generalize clo false N t s N f x y = r at hX hC
                  obtain ⟨g, ok⟩ := r
                  simp only [absE, absL, absF, reduceCtorEq, ↓reduceIte, Nat.reduceEqDiff, Nat.reduceAdd, Nat.reduceLT, Nat.reduceMul, Nat.reduceSub, Nat.reduceLeDiff, Int.reduceLT, Int.reduceLE, Int.reduceEq, Option.isSome_some, implies_true, false_implies, Prod.mk.injEq, ne_eq, not_false_eq_true, not_true_eq_false, ge_iff_le, gt_iff_lt, Int.toNat_natCast, Int.reduceToNat, Int.cast_ofNat_Int, Int.natCast_nonneg, h, hl, hvN, mmH]
                  refine CallsVia.none hC ?_
                  rintro _ _ _ ⟨rfl, rfl, rfl⟩
                  cases ok
                  · have hX : lexp false N M t s f x y = none := hX
                    rw [hX] at step
                    simp only at step
                    simp only [absE, absL, absF, reduceCtorEq, ↓reduceIte, Nat.reduceEqDiff, Nat.reduceAdd, Nat.reduceLT, Nat.reduceMul, Nat.reduceSub, Nat.reduceLeDiff, Int.reduceLT, Int.reduceLE, Int.reduceEq, Option.isSome_some, implies_true, false_implies, Prod.mk.injEq, ne_eq, not_false_eq_true, not_true_eq_false, ge_iff_le, gt_iff_lt, Int.toNat_natCast, Int.reduceToNat, Int.cast_ofNat_Int, Int.natCast_nonneg]
                    refine LoopNext.intro (y + 1, false, []) ⟨by simp only; omega, by simp only [step], fun _ => rfl, by simp⟩ (by simp only; omega) ⟨[((1,0),(1,0)), ((2,0),(2,0)), ((3,0),(3,0))], rfl, ?_, ?_⟩
                    · simp [wkEnv, lk, renV, renAt, renTo, hvN, wy]
                    · simp only [wkMem, List.map_cons, List.map_nil, renBlk, renSegs, renSg]
                      simp [wkLoc, Mem.get, assoc, renBlk, renSegs, renSg, renTo, mmH]
                  · have hX : lexp false N M t s f x y = some g := hX
                    have hLE := lexp_le hX
                    have hgood := hLE.good
                    have hcg : N < cntL g N + d := by have := le_cnth hM hxN hyM hfx hLE; omega
                    rw [hX] at step
                    have hX2 := step
                    simp only [List.length_nil, Nat.add_zero] at hX2
                    simp only [absE, absL, absF, reduceCtorEq, ↓reduceIte, Nat.reduceEqDiff, Nat.reduceAdd, Nat.reduceLT, Nat.reduceMul, Nat.reduceSub, Nat.reduceLeDiff, Int.reduceLT, Int.reduceLE, Int.reduceEq, Option.isSome_some, implies_true, false_implies, Prod.mk.injEq, ne_eq, not_false_eq_true, not_true_eq_false, ge_iff_le, gt_iff_lt, Int.toNat_natCast, Int.reduceToNat, Int.cast_ofNat_Int, Int.natCast_nonneg]
                    have hS := ih g hgood hcg
                    generalize hsm N M t s leM d g 0 = A2 at hS hX2
                    refine CallsVia.none hS ?_
                    rintro _ _ _ (⟨h2, rfl, rfl, rfl⟩ | ⟨hnn, rfl, rfl, rfl⟩)
                    · simp only [absE, absL, absF, reduceCtorEq, ↓reduceIte, Nat.reduceEqDiff, Nat.reduceAdd, Nat.reduceLT, Nat.reduceMul, Nat.reduceSub, Nat.reduceLeDiff, Int.reduceLT, Int.reduceLE, Int.reduceEq, Option.isSome_some, implies_true, false_implies, Prod.mk.injEq, ne_eq, not_false_eq_true, not_true_eq_false, ge_iff_le, gt_iff_lt, Int.toNat_natCast, Int.reduceToNat, Int.cast_ofNat_Int, Int.natCast_nonneg]
                      refine LoopNext.intro (y + 1, false, []) ⟨by simp only; omega, by simp only [hX2, h2, List.append_nil], fun _ => rfl, by simp⟩ (by simp only; omega) ⟨[((1,0),(1,0)), ((2,0),(2,0)), ((3,0),(3,0))], rfl, ?_, ?_⟩
                      · simp [wkEnv, lk, renV, renAt, renTo, hvN, wy]
                      · simp only [wkMem, List.map_cons, List.map_nil, renBlk, renSegs, renSg]
                        simp [wkLoc, Mem.get, assoc, renBlk, renSegs, renSg, renTo, mmH]
                    · simp only [absE, absL, absF, reduceCtorEq, ↓reduceIte, Nat.reduceEqDiff, Nat.reduceAdd, Nat.reduceLT, Nat.reduceMul, Nat.reduceSub, Nat.reduceLeDiff, Int.reduceLT, Int.reduceLE, Int.reduceEq, Option.isSome_some, implies_true, false_implies, Prod.mk.injEq, ne_eq, not_false_eq_true, not_true_eq_false, ge_iff_le, gt_iff_lt, Int.toNat_natCast, Int.reduceToNat, Int.cast_ofNat_Int, Int.natCast_nonneg, newUps_inn, ob_out, Mem.upd_bagU, assoc_rbag_ne]
                      refine LoopNext.intro (y + 1, true, [] ++ A2) ⟨by simp only; omega, by simp only [hX2], by simp, by simp [hnn]⟩ (by simp only; omega) ⟨[((1, 0), (1, 0)), ((2, 0), (2, 0)), ((3, 0), (3, 0))] ++ ((86, 0), (50, 0)) :: growR 51 86 ([] : LLs).length (A2).length, wkOk_grow (next := 60) (A := []) (A2 := A2) (by simp [wkOk]) (by decide) (by decide) (by decide) (by decide) (by simp) (by simp) (by simp), ?_, ?_⟩
                      · simp [wkEnv, lk, renV, renAt, renTo, hvN, wy]; try omega
                      · simp only [wkMem, List.map_cons, List.map_nil, renBlk, renSegs, renSg]
                        rw [wk_grow (A := []) (A2 := A2) (k := 0 + A2.length) (cs := ([] : List Atom)) (by decide) (by decide) (by decide) (by simp) (by simp) (by simp only [Mem.get]; rw [if_neg (by decide), assoc_rbag_lt (by decide)]; simp [assoc, outs_nil, ob]) (fun σ hσ => rfl) (fun j hj => absurd hj (by simp)) (fun j hj => by
                          simp only [Mem.get]
                          rw [if_neg (by decide), assoc_rbag_in hj])]
                        simp [wkLoc, Mem.get, assoc, assoc_rbag_ne, renBlk, renSegs, renSg, renTo, mmH, outs_nil]; try omega
                · exact absurd trivial hl
              · have hst := stop (.inl (by omega))
                simp only [absE, absL, absF, reduceCtorEq, ↓reduceIte, Nat.reduceEqDiff, Nat.reduceAdd, Nat.reduceLT, Nat.reduceMul, Nat.reduceSub, Nat.reduceLeDiff, Int.reduceLT, Int.reduceLE, Int.reduceEq, Option.isSome_some, implies_true, false_implies, Prod.mk.injEq, ne_eq, not_false_eq_true, not_true_eq_false, ge_iff_le, gt_iff_lt, Int.toNat_natCast, Int.reduceToNat, Int.cast_ofNat_Int, Int.natCast_nonneg, h, hvN, mmH, Try.results70]
                exact ⟨[], by simp, by simp, by rw [hst]; exact .inl ⟨rfl, by simp [renV, renAt], by simp, by simp⟩⟩
            · skip
              by_cases h : (y : Int) < M
              · have wy := wrap_i64s (show y < 2 ^ 62 by omega)
                have hyM : y < M := by omega
                have y10 : (y : Int) < 10 := by omega
                by_cases hl : ((A.length : Nat) : Int) ≤ 2000
                · have step := step (by omega)
                  have hX := clo_lexp (d := N) (a := x) (b := y) hN hM st ss hf hxN hyM (by omega)
                  have hC := l06Close_ok N M t s ht hs st ss N f x y ⟨hf.pm, hf.inj⟩ hxN hyM (by omega)
                  generalize clo false N t s N f x y = r at hX hC
                  obtain ⟨g, ok⟩ := r
                  simp only [absE, absL, absF, reduceCtorEq, ↓reduceIte, Nat.reduceEqDiff, Nat.reduceAdd, Nat.reduceLT, Nat.reduceMul, Nat.reduceSub, Nat.reduceLeDiff, Int.reduceLT, Int.reduceLE, Int.reduceEq, Option.isSome_some, implies_true, false_implies, Prod.mk.injEq, ne_eq, not_false_eq_true, not_true_eq_false, ge_iff_le, gt_iff_lt, Int.toNat_natCast, Int.reduceToNat, Int.cast_ofNat_Int, Int.natCast_nonneg, h, hl, hvN, mmH]
                  refine CallsVia.none hC ?_
                  rintro _ _ _ ⟨rfl, rfl, rfl⟩
                  cases ok
                  · have hX : lexp false N M t s f x y = none := hX
                    rw [hX] at step
                    simp only at step
                    simp only [absE, absL, absF, reduceCtorEq, ↓reduceIte, Nat.reduceEqDiff, Nat.reduceAdd, Nat.reduceLT, Nat.reduceMul, Nat.reduceSub, Nat.reduceLeDiff, Int.reduceLT, Int.reduceLE, Int.reduceEq, Option.isSome_some, implies_true, false_implies, Prod.mk.injEq, ne_eq, not_false_eq_true, not_true_eq_false, ge_iff_le, gt_iff_lt, Int.toNat_natCast, Int.reduceToNat, Int.cast_ofNat_Int, Int.natCast_nonneg]
                    refine LoopNext.intro (y + 1, true, A) ⟨by simp only; omega, by simp only [step], by simp, hne⟩ (by simp only; omega) ⟨[((1, 0), (1, 0)), ((2, 0), (2, 0)), ((3, 0), (3, 0))] ++ ((50, 0), (50, 0)) :: growR 51 86 A.length ([] : LLs).length, wkOk_grow (next := 60) (A := A) (A2 := []) (by simp [wkOk]) (by decide) (by decide) (by decide) (by decide) (by simp) (by simp) (by simp), ?_, ?_⟩
                    · simp [wkEnv, lk, renV, renAt, renTo, hvN, wy]
                    · simp only [wkMem, List.map_cons, List.map_nil, renBlk, renSegs, renSg]
                      rw [wk_grow (A := A) (A2 := []) (k := A.length) (cs := ([] : List Atom)) (by decide) (by decide) (by decide) (by simp) (by simp) (by simp only [Mem.get, assoc]; simp [outs_nil, assoc_rbag_ne, assoc]) (fun σ hσ => rfl) (fun j hj => by
                        simp only [Mem.get, assoc]
                        simp
                        have q := assoc_rbag_in' (a := 51) (k := 0) (i := j) (LL := A) hj
                        rwa [Nat.zero_add] at q) (fun j hj => absurd hj (by simp))]
                      simp [wkLoc, Mem.get, assoc, assoc_rbag_ne, renBlk, renSegs, renSg, renTo, mmH, outs_nil]
                  · have hX : lexp false N M t s f x y = some g := hX
                    have hLE := lexp_le hX
                    have hgood := hLE.good
                    have hcg : N < cntL g N + d := by have := le_cnth hM hxN hyM hfx hLE; omega
                    rw [hX] at step
                    have hX2 := step
                    simp only [List.length_nil, Nat.add_zero] at hX2
                    simp only [absE, absL, absF, reduceCtorEq, ↓reduceIte, Nat.reduceEqDiff, Nat.reduceAdd, Nat.reduceLT, Nat.reduceMul, Nat.reduceSub, Nat.reduceLeDiff, Int.reduceLT, Int.reduceLE, Int.reduceEq, Option.isSome_some, implies_true, false_implies, Prod.mk.injEq, ne_eq, not_false_eq_true, not_true_eq_false, ge_iff_le, gt_iff_lt, Int.toNat_natCast, Int.reduceToNat, Int.cast_ofNat_Int, Int.natCast_nonneg]
                    have hS := mapsHB_ok N M t s ht hs st ss d g (0 + A.length) (([] : List Atom) ++ outs 0 (1 + ([] : List Blk).length) A) (([] : List Blk) ++ inn A) hgood hcg (by omega) (Opq.nil.grow A)
                    rw [show hsm N M t s leM d g (0 + A.length) = hsm N M t s leM d g (0 + A.length) from rfl] at hS
                    skip
                    generalize hA2 : hsm N M t s leM d g (0 + A.length) = A2 at hS
                    have hA2b : hsm N M t s leM d g A.length = A2 := by rw [← hA2, Nat.zero_add]
                    refine CallsVia.hmaps (aP := []) (E := ([] : List Blk)) (cs := ([] : List Atom)) (A := A) (n := 0) (O := 50) (B := 51) (nid := 86) (by decide) (by decide) (by decide) (by decide) (by simp) (by simp [assoc]) (fun j hj => by
                      simp only [assoc]
                      simp
                      have q := assoc_rbag_in' (a := 51) (k := 0) (i := j) (LL := A) hj
                      rwa [Nat.zero_add] at q) Opq.nil hS (fun σ hσ => by simp [renVs, renV, renAt, renSegs, renSg, hσ]) (fun h2 ups rd hu => ?_) (fun hnn ups rd hu => ?_)
                    · simp only [List.cons_append, List.nil_append] at hu
                      simp only [absE, absL, absF, reduceCtorEq, ↓reduceIte, Nat.reduceEqDiff, Nat.reduceAdd, Nat.reduceLT, Nat.reduceMul, Nat.reduceSub, Nat.reduceLeDiff, Int.reduceLT, Int.reduceLE, Int.reduceEq, Option.isSome_some, implies_true, false_implies, Prod.mk.injEq, ne_eq, not_false_eq_true, not_true_eq_false, ge_iff_le, gt_iff_lt, Int.toNat_natCast, Int.reduceToNat, Int.cast_ofNat_Int, Int.natCast_nonneg, hu]
                      refine LoopNext.intro (y + 1, true, A) ⟨by simp only; omega, by simp only [step, Nat.zero_add, hA2b, h2, List.append_nil], by simp, hne⟩ (by simp only; omega) ⟨[((1, 0), (1, 0)), ((2, 0), (2, 0)), ((3, 0), (3, 0))] ++ ((50, 0), (50, 0)) :: growR 51 86 A.length ([] : LLs).length, wkOk_grow (next := 60) (A := A) (A2 := []) (by simp [wkOk]) (by decide) (by decide) (by decide) (by decide) (by simp) (by simp) (by simp), ?_, ?_⟩
                      · simp [wkEnv, lk, renV, renAt, renTo, hvN, wy]
                      · simp only [wkMem, List.map_cons, List.map_nil, renBlk, renSegs, renSg]
                        rw [wk_grow (A := A) (A2 := []) (k := A.length) (cs := ([] : List Atom)) (by decide) (by decide) (by decide) (by simp) (by simp) (by simp only [Mem.get]; rw [if_neg (by decide), assoc_rbag_ne (by decide)]; simp [assoc, outs_nil]) (fun σ hσ => rfl) (fun j hj => by
                          simp only [Mem.get]
                          rw [if_neg (by decide), assoc_rbag_in hj]) (fun j hj => absurd hj (by simp))]
                        simp [wkLoc, Mem.get, assoc, assoc_rbag_ne, renBlk, renSegs, renSg, renTo, mmH, outs_nil]
                    · simp only [List.cons_append, List.nil_append] at hu
                      simp only [absE, absL, absF, reduceCtorEq, ↓reduceIte, Nat.reduceEqDiff, Nat.reduceAdd, Nat.reduceLT, Nat.reduceMul, Nat.reduceSub, Nat.reduceLeDiff, Int.reduceLT, Int.reduceLE, Int.reduceEq, Option.isSome_some, implies_true, false_implies, Prod.mk.injEq, ne_eq, not_false_eq_true, not_true_eq_false, ge_iff_le, gt_iff_lt, Int.toNat_natCast, Int.reduceToNat, Int.cast_ofNat_Int, Int.natCast_nonneg, hu]
                      refine LoopNext.intro (y + 1, true, A ++ A2) ⟨by simp only; omega, by simp only [step, Nat.zero_add, hA2b], by simp, by simp [hnn]⟩ (by simp only; omega) ⟨[((1, 0), (1, 0)), ((2, 0), (2, 0)), ((3, 0), (3, 0))] ++ ((86, 0), (50, 0)) :: growR 51 86 (A : LLs).length (A2).length, wkOk_grow (next := 60) (A := A) (A2 := A2) (by simp [wkOk]) (by decide) (by decide) (by decide) (by decide) (by simp) (by simp) (by simp), ?_, ?_⟩
                      · simp [wkEnv, lk, renV, renAt, renTo, hvN, wy]; try omega
                      · simp only [wkMem, List.map_cons, List.map_nil, renBlk, renSegs, renSg]
                        rw [wk_grow (A := A) (A2 := A2) (k := 0 + A.length + A2.length) (cs := ([] : List Atom)) (by decide) (by decide) (by decide) (by simp) (by simp) (by simp only [Mem.get]; rw [if_neg (by decide), assoc_rbag_lt (by decide)]; simp [assoc, outs_nil, ob]) (fun σ hσ => rfl) (fun j hj => by simp only [Mem.get]; rw [if_neg (by decide), assoc_rbag_ne (by decide), assoc, if_neg (by simp), assoc_rbag_in hj]) (fun j hj => by
                          simp only [Mem.get]
                          rw [if_neg (by decide), assoc_rbag_in hj])]
                        simp [wkLoc, Mem.get, assoc, assoc_rbag_ne, renBlk, renSegs, renSg, renTo, mmH, outs_nil]; try omega
                · have hst := stop (.inr (by first | omega | (simp only [List.length_nil]; omega)))
                  simp only [absE, absL, absF, reduceCtorEq, ↓reduceIte, Nat.reduceEqDiff, Nat.reduceAdd, Nat.reduceLT, Nat.reduceMul, Nat.reduceSub, Nat.reduceLeDiff, Int.reduceLT, Int.reduceLE, Int.reduceEq, Option.isSome_some, implies_true, false_implies, Prod.mk.injEq, ne_eq, not_false_eq_true, not_true_eq_false, ge_iff_le, gt_iff_lt, Int.toNat_natCast, Int.reduceToNat, Int.cast_ofNat_Int, Int.natCast_nonneg, h, hl, hvN, mmH, Try.results70]
                  exact ⟨(50, 0) :: srcs 51 0 A.length, row_nodup (.inl (by decide)), row_keep (by decide) (by decide), by rw [hst]; exact .inr ⟨hne rfl, by simp [renV, renAt, renFin, idx], by simp, row_map (p := (50, 0)) (B := 51) (LL := A) (by decide) (by decide) (by simp [Mem.get, assoc, ob]) (fun j hj => by simp only [Mem.get, assoc]; simp; have q := assoc_rbag_in' (a := 51) (k := 0) (i := j) (LL := A) hj; rwa [Nat.zero_add] at q)⟩⟩
              · have hst := stop (.inl (by omega))
                simp only [absE, absL, absF, reduceCtorEq, ↓reduceIte, Nat.reduceEqDiff, Nat.reduceAdd, Nat.reduceLT, Nat.reduceMul, Nat.reduceSub, Nat.reduceLeDiff, Int.reduceLT, Int.reduceLE, Int.reduceEq, Option.isSome_some, implies_true, false_implies, Prod.mk.injEq, ne_eq, not_false_eq_true, not_true_eq_false, ge_iff_le, gt_iff_lt, Int.toNat_natCast, Int.reduceToNat, Int.cast_ofNat_Int, Int.natCast_nonneg, h, hvN, mmH, Try.results70]
                exact ⟨(50, 0) :: srcs 51 0 A.length, row_nodup (.inl (by decide)), row_keep (by decide) (by decide), by rw [hst]; exact .inr ⟨hne rfl, by simp [renV, renAt, renFin, idx], by simp, row_map (p := (50, 0)) (B := 51) (LL := A) (by decide) (by decide) (by simp [Mem.get, assoc, ob]) (fun j hj => by simp only [Mem.get, assoc]; simp; have q := assoc_rbag_in' (a := 51) (k := 0) (i := j) (LL := A) hj; rwa [Nat.zero_add] at q)⟩⟩
        · obtain rfl : x = N := by omega
          have hfull : hsm x M t s leM (d + 1) f 0 = [rowH x f] := by rw [hsm, if_neg (by omega)]
          have h : ¬ (x : Int) < x := by omega
          have hall : ∀ i, i < x → pl f i ≠ 255 := fun i hi => hbe i (by omega)
          rw [hfull]
          have hxx : (x : Int) ≤ 10 := by omega
          have x1 : x * 1 = x := Nat.mul_one x
          have xs0 : x - 0 = x := rfl
          have xz0 : 0 + x = x := Nat.zero_add x
          have er0 : (toS f).drop 0 = toS f := rfl
          by_cases h10 : x = 10
          · subst h10
            have er := rowH_ten hall
            simp only [absE, absL, absF, reduceCtorEq, ↓reduceIte, Nat.reduceEqDiff, Nat.reduceAdd, Nat.reduceLT, Nat.reduceMul, Nat.reduceSub, Nat.reduceLeDiff, Int.reduceLT, Int.reduceLE, Int.reduceEq, Option.isSome_some, implies_true, false_implies, Prod.mk.injEq, ne_eq, not_false_eq_true, not_true_eq_false, ge_iff_le, gt_iff_lt, Int.toNat_natCast, Int.reduceToNat, Int.cast_ofNat_Int, Int.natCast_nonneg, h, er]
            repeat refine And.intro (by omega) ?_
            simp only [absE, absL, absF, reduceCtorEq, ↓reduceIte, Nat.reduceEqDiff, Nat.reduceAdd, Nat.reduceLT, Nat.reduceMul, Nat.reduceSub, Nat.reduceLeDiff, Int.reduceLT, Int.reduceLE, Int.reduceEq, Option.isSome_some, implies_true, false_implies, Prod.mk.injEq, ne_eq, not_false_eq_true, not_true_eq_false, ge_iff_le, gt_iff_lt, Int.toNat_natCast, Int.reduceToNat, Int.cast_ofNat_Int, Int.natCast_nonneg, Try.results70]
            exact ⟨[(41, 0), (39, 0)], by simp, by simp, .inr ⟨by simp, by simp [renV, renAt, renFin, idx], by simp, by simp [Mem.get, assoc, renBlk, renSegs, renSg, renAt, renFin, idx, outs, inn, at_, ib, ob, rowH_len, er]⟩⟩
          · have er := rowH_take hN hall
            simp only [absE, absL, absF, reduceCtorEq, ↓reduceIte, Nat.reduceEqDiff, Nat.reduceAdd, Nat.reduceLT, Nat.reduceMul, Nat.reduceSub, Nat.reduceLeDiff, Int.reduceLT, Int.reduceLE, Int.reduceEq, Option.isSome_some, implies_true, false_implies, Prod.mk.injEq, ne_eq, not_false_eq_true, not_true_eq_false, ge_iff_le, gt_iff_lt, Int.toNat_natCast, Int.reduceToNat, Int.cast_ofNat_Int, Int.natCast_nonneg, h, hxx, h10, x1, xs0, xz0]
            repeat refine And.intro (by omega) ?_
            simp only [absE, absL, absF, reduceCtorEq, ↓reduceIte, Nat.reduceEqDiff, Nat.reduceAdd, Nat.reduceLT, Nat.reduceMul, Nat.reduceSub, Nat.reduceLeDiff, Int.reduceLT, Int.reduceLE, Int.reduceEq, Option.isSome_some, implies_true, false_implies, Prod.mk.injEq, ne_eq, not_false_eq_true, not_true_eq_false, ge_iff_le, gt_iff_lt, Int.toNat_natCast, Int.reduceToNat, Int.cast_ofNat_Int, Int.natCast_nonneg, Try.results70]
            exact ⟨[(41, 0), (39, 0)], by simp, by simp, .inr ⟨by simp, by simp [renV, renAt, renFin, idx], by simp, by simp [Mem.get, assoc, renBlk, renSegs, renSg, renAt, renFin, idx, outs, inn, at_, ib, ob, rowH_len, er]⟩⟩

end Go.Proofs.Ytgblnnodoabdeaa

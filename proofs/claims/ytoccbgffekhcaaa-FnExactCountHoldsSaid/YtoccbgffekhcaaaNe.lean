/-
Contracts of functions of the given program, by the abstract walk.
-/
import Derived.Test.YtoccbgffekhcaaaAbsY
import Derived.Test.YtoccbgffekhcaaaNd
namespace Go.Proofs.Ytoccbgffekhcaaa
open Go Go.Abs
set_option linter.unusedVariables false
set_option linter.unusedSectionVars false
set_option linter.unusedSimpArgs false
set_option maxRecDepth 100000
/-! the congruence of some pairs: the reference -/
def fp (P : List (Nat × Nat)) : List Int := P.flatMap fun p => [(p.1 : Int), (p.2 : Int)]
theorem fp_len {P : List (Nat × Nat)} : (fp P).length = P.length * 2 := by
  induction P with
  | nil => rfl
  | cons p P ih => simp only [fp, List.flatMap_cons, List.length_append, List.length_cons] at ih ⊢; simp only [List.length_nil]; omega
theorem fp_app {P Q : List (Nat × Nat)} : fp (P ++ Q) = fp P ++ fp Q := by simp [fp]
theorem fp_get {P : List (Nat × Nat)} : ∀ {k}, k < P.length → (fp P).getD (k * 2) 0 = ((P.getD k (0, 0)).1 : Int) ∧ (fp P).getD (k * 2 + 1) 0 = ((P.getD k (0, 0)).2 : Int) := by
  induction P with
  | nil => intro k h; exact absurd h (by simp)
  | cons p P ih =>
    intro k h
    have e : fp (p :: P) = (p.1 : Int) :: (p.2 : Int) :: fp P := rfl
    rw [e]
    cases k with
    | zero => exact ⟨rfl, rfl⟩
    | succ k =>
      have := ih (k := k) (by simpa using h)
      rw [show (k + 1) * 2 = k * 2 + 1 + 1 by omega]
      simpa using this
def f10 (c : Nat → Nat) (N : Nat) : List Int := fl (fun i => if i < N then c i else 0) 10
theorem f10_len {c : Nat → Nat} {N : Nat} : (f10 c N).length = 10 := fl_len
theorem f10_get {c : Nat → Nat} {N i : Nat} (hN : N ≤ 10) (h : i < N) : (f10 c N).getD i 0 = (c i : Int) := by rw [f10, fl_get (by omega), if_pos h]
theorem f10_set {c d : Nat → Nat} {N i v : Nat} (hN : N ≤ 10) (hi : i < N) (h1 : d i = v) (h2 : ∀ j, j < N → j ≠ i → d j = c j) : (f10 c N).set i (v : Int) = f10 d N := by
  refine fl_set (by omega) (by rw [if_pos hi]; exact h1) fun j hj hne => ?_
  by_cases hjN : j < N
  · rw [if_pos hjN, if_pos hjN]; exact h2 j hjN hne
  · rw [if_neg hjN, if_neg hjN]
theorem f10_congr {c d : Nat → Nat} {N : Nat} (h : ∀ i, i < N → c i = d i) : f10 c N = f10 d N := fl_congr fun i _ => by
  by_cases hi : i < N
  · rw [if_pos hi, if_pos hi, h i hi]
  · rw [if_neg hi, if_neg hi]
/-- what the reference does, step by step -/
def clsGo (N : Nat) (f : Nat → Nat → Nat) : Nat → Nat → List (Nat × Nat) → (Nat → Nat) → (Nat → Nat)
  | 0, _, _, c => c
  | n + 1, k, P, c =>
    if k < P.length then
      (if c (P.getD k (0, 0)).1 = c (P.getD k (0, 0)).2 then clsGo N f n (k + 1) P c
       else clsGo N f n (k + 1) (P ++ trans2 f (P.getD k (0, 0)).1 (P.getD k (0, 0)).2 N) (mergeF c (c (P.getD k (0, 0)).1) (c (P.getD k (0, 0)).2)))
    else c
theorem clsGo_same {N : Nat} {f : Nat → Nat → Nat} {n k : Nat} {P : List (Nat × Nat)} {c : Nat → Nat} {x y : Nat} (hk : k < P.length) (hx : (P.getD k (0, 0)).1 = x) (hy : (P.getD k (0, 0)).2 = y) (h : c x = c y) : clsGo N f (n + 1) k P c = clsGo N f n (k + 1) P c := by
  rw [clsGo, if_pos hk, hx, hy, if_pos h]
theorem clsGo_merge {N : Nat} {f : Nat → Nat → Nat} {n k : Nat} {P : List (Nat × Nat)} {c : Nat → Nat} {x y : Nat} (hk : k < P.length) (hx : (P.getD k (0, 0)).1 = x) (hy : (P.getD k (0, 0)).2 = y) (h : ¬ c x = c y) : clsGo N f (n + 1) k P c = clsGo N f n (k + 1) (P ++ trans2 f x y N) (mergeF c (c x) (c y)) := by
  rw [clsGo, if_pos hk, hx, hy, if_neg h]
theorem clsGo_end {N : Nat} {f : Nat → Nat → Nat} {n k : Nat} {P : List (Nat × Nat)} {c : Nat → Nat} (hk : ¬ k < P.length) : clsGo N f n k P c = c := by
  cases n with
  | zero => rfl
  | succ n => rw [clsGo, if_neg hk]
/-- what stands while it runs -/
structure ClsI (N : Nat) (f : Nat → Nat → Nat) (P0 : List (Nat × Nat)) (S : Nat → Nat → Prop) (n k : Nat) (P : List (Nat × Nat)) (c : Nat → Nat) : Prop where
  lab : Lab N f S c
  wait : Waits N f P c
  dom : ∀ p ∈ P, p.1 < N ∧ p.2 < N ∧ Cg N f S p.1 p.2
  done : ∀ j, j < k → j < P.length → c (P.getD j (0, 0)).1 = c (P.getD j (0, 0)).2
  fuel : cntB (used c N) N * 21 + (P.length - k) ≤ n
  len : P.length + 20 * cntB (used c N) N ≤ P0.length + 20 * N
  sub : ∃ T, P = P0 ++ T
  kl : k ≤ P.length
theorem getP_mem {P : List (Nat × Nat)} {k : Nat} (h : k < P.length) : P.getD k (0, 0) ∈ P := by
  have : P.getD k (0, 0) = P[k] := by simp [h]
  rw [this]; exact List.getElem_mem h
theorem getP_app_lt {P Q : List (Nat × Nat)} {k : Nat} (h : k < P.length) : (P ++ Q).getD k (0, 0) = P.getD k (0, 0) := by
  simp [List.getD_eq_getElem?_getD, List.getElem?_append_left h]
theorem ClsI.same {N : Nat} {f : Nat → Nat → Nat} {P0 : List (Nat × Nat)} {S : Nat → Nat → Prop} {n k : Nat} {P : List (Nat × Nat)} {c : Nat → Nat} (h : ClsI N f P0 S (n + 1) k P c) (hk : k < P.length) (he : c (P.getD k (0, 0)).1 = c (P.getD k (0, 0)).2) : ClsI N f P0 S n (k + 1) P c := by
  refine { h with done := fun j hj hl => ?_, fuel := by have := h.fuel; omega, kl := hk }
  by_cases e : j = k
  · subst e; exact he
  · exact h.done j (by omega) hl
theorem ClsI.merge {N : Nat} {f : Nat → Nat → Nat} {P0 : List (Nat × Nat)} {S : Nat → Nat → Prop} {n k : Nat} {P : List (Nat × Nat)} {c : Nat → Nat} (hN : N ≤ 10) (hf : ∀ a b, a < N → b < N → f a b < N) (h : ClsI N f P0 S (n + 1) k P c) (hk : k < P.length) {x y : Nat} (hx : (P.getD k (0, 0)).1 = x) (hy : (P.getD k (0, 0)).2 = y) (hne : ¬ c x = c y) :
    ClsI N f P0 S n (k + 1) (P ++ trans2 f x y N) (mergeF c (c x) (c y)) := by
  have hp := h.dom _ (getP_mem hk)
  rw [hx, hy] at hp
  have hcnt := mergeF_cnt h.lab hp.1 hp.2.1 hne
  have hl := h.len
  have hfu := h.fuel
  refine ⟨mergeF_lab h.lab hp.1 hp.2.1 hp.2.2 hne, h.wait.merge hp.1 hp.2.1, fun p hp' => ?_, fun j hj hl => ?_, ?_, ?_, ?_, ?_⟩
  · rcases List.mem_append.1 hp' with hp' | hp'
    · exact h.dom p hp'
    · exact trans2_all' (Q := fun p => p.1 < N ∧ p.2 < N ∧ Cg N f S p.1 p.2) (fun z hz => ⟨⟨hf _ _ hp.1 hz, hf _ _ hp.2.1 hz, .mulL hz hp.2.2⟩, ⟨hf _ _ hz hp.1, hf _ _ hz hp.2.1, .mulR hz hp.2.2⟩⟩) p hp'
  · rw [getP_app_lt (by omega)]
    by_cases e : j = k
    · subst e; rw [hx, hy]; exact mergeF_now
    · exact mergeF_keep (h.done j (by omega) (by omega))
  · rw [List.length_append, trans2_len]; omega
  · rw [List.length_append, trans2_len]; omega
  · obtain ⟨T, rfl⟩ := h.sub
    exact ⟨T ++ trans2 f x y N, by rw [List.append_assoc]⟩
  · rw [List.length_append]; omega
theorem ClsI.init {N : Nat} {f : Nat → Nat → Nat} {P0 : List (Nat × Nat)} {S : Nat → Nat → Prop} (hP : ∀ p ∈ P0, p.1 < N ∧ p.2 < N ∧ S p.1 p.2) : ClsI N f P0 S (21 * N + P0.length) 0 P0 id := by
  have := cntB_max (p := used id N) (n := N)
  exact ⟨lab_id fun _ _ => rfl, waits_id fun _ _ => rfl, fun p hp => ⟨(hP p hp).1, (hP p hp).2.1, .base (hP p hp).2.2⟩, fun j hj => absurd hj (by omega), by omega, by omega, ⟨[], by simp⟩, by omega⟩
theorem ClsI.ok {N : Nat} {f : Nat → Nat → Nat} {P0 : List (Nat × Nat)} {S : Nat → Nat → Prop} {n k : Nat} {P : List (Nat × Nat)} {c : Nat → Nat} (h : ClsI N f P0 S n k P c) (hk : ¬ k < P.length) (hS : ∀ a b, S a b → (a, b) ∈ P0) : LabOk N f S c := by
  refine merge_done h.lab h.wait (fun p hp => ?_) fun a b e => ?_
  · obtain ⟨j, hj, rfl⟩ := List.getElem_of_mem hp
    have := h.done j (by have := h.kl; omega) hj
    simpa [hj] using this
  · obtain ⟨T, rfl⟩ := h.sub
    exact List.mem_append_left _ (hS a b e)
def clsR0 (N : Nat) (f : Nat → Nat → Nat) (P0 : List (Nat × Nat)) : Nat → Nat := clsGo N f (21 * N + P0.length) 0 P0 id
theorem clsGo_ok {N : Nat} {f : Nat → Nat → Nat} {P0 : List (Nat × Nat)} {S : Nat → Nat → Prop} (hN : N ≤ 10) (hf : ∀ a b, a < N → b < N → f a b < N) (hS : ∀ a b, S a b → (a, b) ∈ P0) : ∀ {n k : Nat} {P : List (Nat × Nat)} {c : Nat → Nat}, ClsI N f P0 S n k P c → LabOk N f S (clsGo N f n k P c)
  | 0, k, P, c, h => by have := h.fuel; exact h.ok (by omega) hS
  | n + 1, k, P, c, h => by
    by_cases hk : k < P.length
    · by_cases e : c (P.getD k (0, 0)).1 = c (P.getD k (0, 0)).2
      · rw [clsGo_same hk rfl rfl e]; exact clsGo_ok hN hf hS (h.same hk e)
      · rw [clsGo_merge hk rfl rfl e]; exact clsGo_ok hN hf hS (h.merge hN hf hk rfl rfl e)
    · rw [clsGo_end hk]; exact h.ok hk hS
theorem clsR0_ok {N : Nat} {f : Nat → Nat → Nat} {P0 : List (Nat × Nat)} {S : Nat → Nat → Prop} (hN : N ≤ 10) (hf : ∀ a b, a < N → b < N → f a b < N) (hP : ∀ p ∈ P0, p.1 < N ∧ p.2 < N) (hS : ∀ a b, S a b ↔ (a, b) ∈ P0) : LabOk N f S (clsR0 N f P0) :=
  clsGo_ok hN hf (fun a b => (hS a b).1) (ClsI.init fun p hp => ⟨(hP p hp).1, (hP p hp).2, (hS _ _).2 hp⟩)
def anyNe (P : List (Nat × Nat)) : Bool := P.any fun p => p.1 != p.2
def fpB (P : List (Nat × Nat)) : Blk := .lv true [(0, .ints .i64 (P.length * 2) (fp P))]
def pV : Bool → Nat → AV
  | false, n => .ref (.sl 0 0 0 0 n 2)
  | true, n => .ref (.sl 60 0 0 0 n 2)
def pA : Bool → List (Nat × Nat) → Blk
  | false, P => .lv true [(0, .ints .i64 (P.length * 2) (fp P))]
  | true, _ => .dead
def pB : Bool → List (Nat × Nat) → List (Abs.Id × Blk)
  | false, _ => []
  | true, P => [((60, 0), .lv true [(0, .ints .i64 (P.length * 2) (fp P))])]
def mgF (c : Nat → Nat) (a b i : Nat) : Nat → Nat := fun j => if j < i then mergeF c a b j else c j
theorem mgF_zero {c : Nat → Nat} {a b : Nat} : mgF c a b 0 = c := by funext j; unfold mgF; rw [if_neg (by omega)]
theorem l06Classes_ok (N : Nat) (t : List Int) (P0 : List (Nat × Nat)) (ht : Bytes 100 t) (hs : SqP N t) (hP : ∀ p ∈ P0, p.1 < N ∧ p.2 < N) (hl : P0.length ≤ 1000) :
    ACalls Try.prog 74 [.agg (sqS N t), .ref (.sl 0 0 0 0 P0.length 2)] [fpB P0] (fun v ms ns => v = .agg [(0, .ints .i64 10 (f10 (clsR0 N (cl t) P0) N))] ∧ ms = [if anyNe P0 then .dead else fpB P0] ∧ ns = []) := by
  have hN := hs.le
  unfold fpB
  refine acalls_of_body mix Try.func74 rfl fok74 (Nat.le_of_ble_eq_true rfl) ?_
  unfold abody
  simp only [absE, absL, absF, reduceCtorEq, ↓reduceIte, Nat.reduceEqDiff, Nat.reduceAdd, Nat.reduceLT, Nat.reduceMul, Nat.reduceSub, Nat.reduceLeDiff, Int.reduceLT, Int.reduceLE, Int.reduceEq, Option.isSome_some, implies_true, false_implies, Prod.mk.injEq, ne_eq, not_false_eq_true, not_true_eq_false, ge_iff_le, gt_iff_lt, Int.toNat_natCast, Int.reduceToNat, Int.cast_ofNat_Int, Int.natCast_nonneg, Try.f74]
  refine awpLoop.intro (fun i : Nat => [(1, .ref (.sl 0 0 0 0 P0.length 2)), (2, .ref (.ptr 1 0 0 0)), (4, .ref (.ptr 2 0 0 0)), (5, .ref (.ptr 4 0 0 0)), (6, .i .i64 i)]) (fun i => ⟨[.lv true [(0, .ints .i64 (P0.length * 2) (fp P0))]], [((1, 0), .lv true (sqS N t)), ((2, 0), .lv true ([(0, .ints .i64 10 (List.replicate 10 0))])), ((4, 0), .lv true ([(0, .ints .i64 10 (f10 id i))]))], 7⟩)
    (fun i => i ≤ N) (fun i => N - i) 0 (by omega) ⟨[((1,0),(1,0)), ((2,0),(2,0)), ((4,0),(4,0))], rfl, ?_, ?_⟩ ?_
  · simp [wkEnv, lk, renV, renAt, renTo]
  · simp [wkMem, wkLoc, Mem.get, assoc, renBlk, renSegs, renSg, renTo, f10, fl]; rfl
  · intro i hi
    by_cases h : (i : Int) < N
    · have w := wrap_i64s (show i < 2 ^ 62 by omega)
      have i1 : (i : Int) < 10 := by omega
      have u : 0 + i * 1 + 1 ≤ 10 := by omega
      have es : (f10 id i).set (0 + i * 1) (i : Int) = f10 id (i + 1) := by
        rw [Nat.zero_add, Nat.mul_one]
        refine fl_set (by omega) (by rw [if_pos (by omega)]; rfl) fun j hj hne => ?_
        by_cases hj2 : j < i
        · rw [if_pos hj2, if_pos (by omega)]
        · rw [if_neg hj2, if_neg (by omega)]
      simp only [absE, absL, absF, reduceCtorEq, ↓reduceIte, Nat.reduceEqDiff, Nat.reduceAdd, Nat.reduceLT, Nat.reduceMul, Nat.reduceSub, Nat.reduceLeDiff, Int.reduceLT, Int.reduceLE, Int.reduceEq, Option.isSome_some, implies_true, false_implies, Prod.mk.injEq, ne_eq, not_false_eq_true, not_true_eq_false, ge_iff_le, gt_iff_lt, Int.toNat_natCast, Int.reduceToNat, Int.cast_ofNat_Int, Int.natCast_nonneg, h, i1, u, es]
      repeat refine And.intro (by omega) ?_
      refine LoopNext.intro (i + 1) (by omega) (by omega) ⟨[((1,0),(1,0)), ((2,0),(2,0)), ((4,0),(4,0))], rfl, ?_, ?_⟩
      · simp [wkEnv, lk, renV, renAt, renTo, w]
      · simp [wkMem, wkLoc, Mem.get, assoc, renBlk, renSegs, renSg, renTo, w]
    · obtain rfl : i = N := by omega
      simp only [absE, absL, absF, reduceCtorEq, ↓reduceIte, Nat.reduceEqDiff, Nat.reduceAdd, Nat.reduceLT, Nat.reduceMul, Nat.reduceSub, Nat.reduceLeDiff, Int.reduceLT, Int.reduceLE, Int.reduceEq, Option.isSome_some, implies_true, false_implies, Prod.mk.injEq, ne_eq, not_false_eq_true, not_true_eq_false, ge_iff_le, gt_iff_lt, Int.toNat_natCast, Int.reduceToNat, Int.cast_ofNat_Int, Int.natCast_nonneg, h]
      refine awpLoop.intro (fun s : Nat × Nat × Bool × List (Nat × Nat) × (Nat → Nat) => [(1, pV s.2.2.1 s.2.2.2.1.length), (2, .ref (.ptr 1 0 0 0)), (4, .ref (.ptr 2 0 0 0)), (5, .ref (.ptr 4 0 0 0)), (7, .i .i64 s.2.1)]) (fun s => ⟨[pA s.2.2.1 s.2.2.2.1], [((1, 0), .lv true (sqS i t)), ((2, 0), .lv true ([(0, .ints .i64 10 (List.replicate 10 0))])), ((4, 0), .lv true ([(0, .ints .i64 10 (f10 s.2.2.2.2 i))]))] ++ pB s.2.2.1 s.2.2.2.1, 100⟩)
        (fun s => ClsI i (cl t) P0 (fun a b => (a, b) ∈ P0) s.1 s.2.1 s.2.2.2.1 s.2.2.2.2 ∧ clsGo i (cl t) s.1 s.2.1 s.2.2.2.1 s.2.2.2.2 = clsR0 i (cl t) P0 ∧ (s.2.2.1 = false → s.2.2.2.1 = P0 ∧ s.2.2.2.2 = id) ∧ (s.2.2.1 = true → anyNe P0 = true)) (fun s => s.1)
        (21 * i + P0.length, 0, false, P0, id) ⟨ClsI.init fun p hp => ⟨(hP p hp).1, (hP p hp).2, hp⟩, rfl, fun _ => ⟨rfl, rfl⟩, fun e => by cases e⟩ ⟨[((1,0),(1,0)), ((2,0),(2,0)), ((4,0),(4,0))], rfl, ?_, ?_⟩ ?_
      · simp [wkEnv, lk, renV, renAt, renTo, pV, pA, pB]
      · simp [wkMem, wkLoc, Mem.get, assoc, renBlk, renSegs, renSg, renTo, pV, pA, pB]
      · rintro ⟨n, k, b, P, c⟩ ⟨hI, hgo, hb0, hb1⟩
        simp only at hI hgo hb0 hb1
        have hlen : P.length ≤ 1200 := by have := hI.len; omega
        by_cases hk : (k : Int) < P.length
        · have hk' : k < P.length := by omega
          obtain ⟨m, rfl⟩ : ∃ m, n = m + 1 := ⟨n - 1, by have := hI.fuel; omega⟩
          obtain ⟨g1, g2⟩ := fp_get hk'
          have hp := hI.dom _ (getP_mem hk')
          have hsame := fun e => hI.same hk' e
          generalize hx : (P.getD k (0, 0)).1 = x at g1 hp
          generalize hy : (P.getD k (0, 0)).2 = y at g2 hp
          have w := wrap_i64s (show k < 2 ^ 62 by omega)
          have f1 : (fp P).getD (0 + k * 2 + 0) 0 = (x : Int) := by rw [Nat.zero_add, Nat.add_zero]; exact g1
          have f2 : (fp P).getD (0 + k * 2 + 1) 0 = (y : Int) := by rw [Nat.zero_add]; exact g2
          have u1 : 0 + k * 2 + 0 < P.length * 2 := by omega
          have u2 : 0 + k * 2 + 1 < P.length * 2 := by omega
          have xi : (x : Int) < 10 := by have := hp.1; omega
          have yi : (y : Int) < 10 := by have := hp.2.1; omega
          have v1 : 0 + x * 1 < 10 := by omega
          have v2 : 0 + y * 1 < 10 := by omega
          have q1 : (f10 c i).getD (0 + x * 1) 0 = (c x : Int) := by rw [Nat.zero_add, Nat.mul_one]; exact f10_get hN hp.1
          have q2 : (f10 c i).getD (0 + y * 1) 0 = (c y : Int) := by rw [Nat.zero_add, Nat.mul_one]; exact f10_get hN hp.2.1
          cases b
          · by_cases e : c x = c y
            · have he : ((c x : Nat) : Int) = (c y : Nat) := by rw [e]
              simp only [absE, absL, absF, reduceCtorEq, ↓reduceIte, Nat.reduceEqDiff, Nat.reduceAdd, Nat.reduceLT, Nat.reduceMul, Nat.reduceSub, Nat.reduceLeDiff, Int.reduceLT, Int.reduceLE, Int.reduceEq, Option.isSome_some, implies_true, false_implies, Prod.mk.injEq, ne_eq, not_false_eq_true, not_true_eq_false, ge_iff_le, gt_iff_lt, Int.toNat_natCast, Int.reduceToNat, Int.cast_ofNat_Int, Int.natCast_nonneg, hk, pV, pA, pB, f1, f2, u1, u2, xi, yi, v1, v2, q1, q2, he]
              repeat first | refine And.intro (by decide +kernel) ?_ | refine And.intro (by omega) ?_
              refine LoopNext.intro (m, k + 1, false, P, c) ⟨hsame (by rw [hx, hy]; exact e), (clsGo_same hk' hx hy e).symm.trans hgo, hb0, hb1⟩ (by simp) ⟨[((1,0),(1,0)), ((2,0),(2,0)), ((4,0),(4,0))], rfl, ?_, ?_⟩
              · simp [wkEnv, lk, renV, renAt, renTo, w, pV, pA, pB]
              · simp [wkMem, wkLoc, Mem.get, assoc, renBlk, renSegs, renSg, renTo, w, pV, pA, pB]
            · have he : ¬((c x : Nat) : Int) = (c y : Nat) := by omega
              have hany : anyNe P0 = true := by obtain ⟨rfl, rfl⟩ := hb0 rfl; exact List.any_eq_true.2 ⟨_, getP_mem hk', by rw [hx, hy]; simpa using e⟩
              have hlt := fun j (hj : j < i) => hI.lab.lt j hj
              simp only [absE, absL, absF, reduceCtorEq, ↓reduceIte, Nat.reduceEqDiff, Nat.reduceAdd, Nat.reduceLT, Nat.reduceMul, Nat.reduceSub, Nat.reduceLeDiff, Int.reduceLT, Int.reduceLE, Int.reduceEq, Option.isSome_some, implies_true, false_implies, Prod.mk.injEq, ne_eq, not_false_eq_true, not_true_eq_false, ge_iff_le, gt_iff_lt, Int.toNat_natCast, Int.reduceToNat, Int.cast_ofNat_Int, Int.natCast_nonneg, hk, pV, pA, pB, f1, f2, u1, u2, xi, yi, v1, v2, q1, q2, he]
              repeat first | refine And.intro (by decide +kernel) ?_ | refine And.intro (by omega) ?_
              refine awpLoop.intro (fun j : Nat => [(1, pV false P.length), (2, .ref (.ptr 1 0 0 0)), (4, .ref (.ptr 2 0 0 0)), (5, .ref (.ptr 4 0 0 0)), (7, .i .i64 k), (8, .i .i64 x), (9, .i .i64 y), (10, .i .i64 (c x)), (11, .i .i64 (c y)), (12, .i .i64 j)]) (fun j => ⟨[pA false P], [((1, 0), .lv true (sqS i t)), ((2, 0), .lv true ([(0, .ints .i64 10 (List.replicate 10 0))])), ((4, 0), .lv true ([(0, .ints .i64 10 (f10 (mgF c (c x) (c y) j) i))]))] ++ pB false P, 200⟩)
                (fun j => j ≤ i) (fun j => i - j) 0 (by omega) ⟨[((1,0),(1,0)), ((2,0),(2,0)), ((4,0),(4,0))], rfl, ?_, ?_⟩ ?_
              · simp [wkEnv, lk, renV, renAt, renTo, pV, pA, pB, mgF_zero]
              · simp [wkMem, wkLoc, Mem.get, assoc, renBlk, renSegs, renSg, renTo, pV, pA, pB, mgF_zero]
              · intro j hj
                by_cases h3 : (j : Int) < i
                · have w3 := wrap_i64s (show j < 2 ^ 62 by omega)
                  have ji : (j : Int) < 10 := by omega
                  have j1 : 0 + j * 1 < 10 := by omega
                  have j2 : 0 + j * 1 + 1 ≤ 10 := by omega
                  have qj : (f10 (mgF c (c x) (c y) j) i).getD (0 + j * 1) 0 = (c j : Int) := by
                    rw [Nat.zero_add, Nat.mul_one, f10_get hN (by omega)]; unfold mgF; rw [if_neg (by omega)]
                  by_cases e3 : c j = c y
                  · have he3 : ((c j : Nat) : Int) = (c y : Nat) := by rw [e3]
                    have es : (f10 (mgF c (c x) (c y) j) i).set (0 + j * 1) (c x : Int) = f10 (mgF c (c x) (c y) (j + 1)) i := by
                      rw [Nat.zero_add, Nat.mul_one]
                      refine f10_set hN (by omega) (by unfold mgF mergeF; rw [if_pos (by omega), if_pos e3]) fun j' hj' hne => ?_
                      unfold mgF
                      by_cases h4 : j' < j
                      · rw [if_pos h4, if_pos (by omega)]
                      · rw [if_neg h4, if_neg (by omega)]
                    simp only [absE, absL, absF, reduceCtorEq, ↓reduceIte, Nat.reduceEqDiff, Nat.reduceAdd, Nat.reduceLT, Nat.reduceMul, Nat.reduceSub, Nat.reduceLeDiff, Int.reduceLT, Int.reduceLE, Int.reduceEq, Option.isSome_some, implies_true, false_implies, Prod.mk.injEq, ne_eq, not_false_eq_true, not_true_eq_false, ge_iff_le, gt_iff_lt, Int.toNat_natCast, Int.reduceToNat, Int.cast_ofNat_Int, Int.natCast_nonneg, h3, ji, j1, j2, qj, he3, es, pV, pA, pB]
                    repeat first | refine And.intro (by decide +kernel) ?_ | refine And.intro (by omega) ?_
                    refine LoopNext.intro (j + 1) (by omega) (by omega) ⟨[((1,0),(1,0)), ((2,0),(2,0)), ((4,0),(4,0))], rfl, ?_, ?_⟩
                    · simp [wkEnv, lk, renV, renAt, renTo, w3, pV, pA, pB]
                    · simp [wkMem, wkLoc, Mem.get, assoc, renBlk, renSegs, renSg, renTo, w3, pV, pA, pB]
                  · have he3 : ¬((c j : Nat) : Int) = (c y : Nat) := by omega
                    have es : f10 (mgF c (c x) (c y) j) i = f10 (mgF c (c x) (c y) (j + 1)) i := f10_congr fun j' hj' => by
                      unfold mgF
                      by_cases h4 : j' < j
                      · rw [if_pos h4, if_pos (by omega)]
                      · rw [if_neg h4]
                        by_cases h5 : j' < j + 1
                        · obtain rfl : j' = j := by omega
                          rw [if_pos h5, mergeF, if_neg e3]
                        · rw [if_neg h5]
                    simp only [absE, absL, absF, reduceCtorEq, ↓reduceIte, Nat.reduceEqDiff, Nat.reduceAdd, Nat.reduceLT, Nat.reduceMul, Nat.reduceSub, Nat.reduceLeDiff, Int.reduceLT, Int.reduceLE, Int.reduceEq, Option.isSome_some, implies_true, false_implies, Prod.mk.injEq, ne_eq, not_false_eq_true, not_true_eq_false, ge_iff_le, gt_iff_lt, Int.toNat_natCast, Int.reduceToNat, Int.cast_ofNat_Int, Int.natCast_nonneg, h3, ji, j1, j2, qj, he3, pV, pA, pB]
                    repeat first | refine And.intro (by decide +kernel) ?_ | refine And.intro (by omega) ?_
                    refine LoopNext.intro (j + 1) (by omega) (by omega) ⟨[((1,0),(1,0)), ((2,0),(2,0)), ((4,0),(4,0))], rfl, ?_, ?_⟩
                    · simp [wkEnv, lk, renV, renAt, renTo, w3, pV, pA, pB, es]
                    · simp [wkMem, wkLoc, Mem.get, assoc, renBlk, renSegs, renSg, renTo, w3, pV, pA, pB, es]
                · have hji : j = i := by omega
                  have es : f10 (mgF c (c x) (c y) j) i = f10 (mergeF c (c x) (c y)) i := by rw [hji]; exact f10_congr fun j' hj' => by unfold mgF; rw [if_pos hj']
                  simp only [absE, absL, absF, reduceCtorEq, ↓reduceIte, Nat.reduceEqDiff, Nat.reduceAdd, Nat.reduceLT, Nat.reduceMul, Nat.reduceSub, Nat.reduceLeDiff, Int.reduceLT, Int.reduceLE, Int.reduceEq, Option.isSome_some, implies_true, false_implies, Prod.mk.injEq, ne_eq, not_false_eq_true, not_true_eq_false, ge_iff_le, gt_iff_lt, Int.toNat_natCast, Int.reduceToNat, Int.cast_ofNat_Int, Int.natCast_nonneg, h3, pV, pA, pB, es]
                  refine awpLoop.intro (fun s : Nat × Bool × List (Nat × Nat) => [(1, pV s.2.1 s.2.2.length), (2, .ref (.ptr 1 0 0 0)), (4, .ref (.ptr 2 0 0 0)), (5, .ref (.ptr 4 0 0 0)), (7, .i .i64 k), (8, .i .i64 x), (9, .i .i64 y), (13, .i .i64 s.1)]) (fun s => ⟨[pA s.2.1 s.2.2], [((1, 0), .lv true (sqS i t)), ((2, 0), .lv true ([(0, .ints .i64 10 (List.replicate 10 0))])), ((4, 0), .lv true ([(0, .ints .i64 10 (f10 (mergeF c (c x) (c y)) i))]))] ++ pB s.2.1 s.2.2, 300⟩)
                    (fun s => s.1 ≤ i ∧ s.2.2 = P ++ trans2 (cl t) x y s.1 ∧ (0 < s.1 → s.2.1 = true)) (fun s => i - s.1) (0, false, P) ⟨by simp, by simp [trans2], fun hh => absurd hh (by simp)⟩ ⟨[((1,0),(1,0)), ((2,0),(2,0)), ((4,0),(4,0))], rfl, ?_, ?_⟩ ?_
                  · simp [wkEnv, lk, renV, renAt, renTo, pV, pA, pB]
                  · simp [wkMem, wkLoc, Mem.get, assoc, renBlk, renSegs, renSg, renTo, pV, pA, pB]
                  · rintro ⟨z, b', Q⟩ ⟨hz, hQ, hb'⟩
                    simp only at hz hQ hb'
                    by_cases h4 : (z : Int) < i
                    · have w4 := wrap_i64s (show z < 2 ^ 62 by omega)
                      have zi : (z : Int) < 10 := by omega
                      have hz' : z < i := by omega
                      have hQl : Q.length ≤ 1300 := by rw [hQ, List.length_append, trans2_len]; omega
                      have n1 : 0 + x * 10 + z * 1 < 100 := by omega
                      have n2 : 0 + y * 10 + z * 1 < 100 := by omega
                      have n3 : 0 + z * 10 + x * 1 < 100 := by omega
                      have n4 : 0 + z * 10 + y * 1 < 100 := by omega
                      have k1 := sq_colget ht x z
                      have k2 := sq_colget ht y z
                      have k3 := sq_colget ht z x
                      have k4 := sq_colget ht z y
                      have l1 := hs.cl_lt hp.1 hz'
                      have l2 := hs.cl_lt hp.2.1 hz'
                      have l3 := hs.cl_lt hz' hp.1
                      have l4 := hs.cl_lt hz' hp.2.1
                      have w1 := wrap_i64n (show cl t x z < 2 ^ 62 by omega)
                      have w2 := wrap_i64n (show cl t y z < 2 ^ 62 by omega)
                      have w3' := wrap_i64n (show cl t z x < 2 ^ 62 by omega)
                      have w4' := wrap_i64n (show cl t z y < 2 ^ 62 by omega)
                      have hQ' : P ++ trans2 (cl t) x y (z + 1) = Q ++ [(cl t x z, cl t y z), (cl t z x, cl t z y)] := by rw [trans2, ← List.append_assoc, ← hQ]
                      have hfp : fp (Q ++ [(cl t x z, cl t y z), (cl t z x, cl t z y)]) = fp Q ++ [(cl t x z : Int), (cl t y z : Int), (cl t z x : Int), (cl t z y : Int)] := by rw [fp_app]; rfl
                      cases b'
                      · simp only [absE, absL, absF, reduceCtorEq, ↓reduceIte, Nat.reduceEqDiff, Nat.reduceAdd, Nat.reduceLT, Nat.reduceMul, Nat.reduceSub, Nat.reduceLeDiff, Int.reduceLT, Int.reduceLE, Int.reduceEq, Option.isSome_some, implies_true, false_implies, Prod.mk.injEq, ne_eq, not_false_eq_true, not_true_eq_false, ge_iff_le, gt_iff_lt, Int.toNat_natCast, Int.reduceToNat, Int.cast_ofNat_Int, Int.natCast_nonneg, h4, xi, yi, zi, n1, n2, n3, n4, k1, k2, k3, k4, w1, w2, w3', w4', pV, pA, pB]
                        repeat first | refine And.intro (by decide +kernel) ?_ | refine And.intro (by omega) ?_
                        refine LoopNext.intro (z + 1, true, Q ++ [(cl t x z, cl t y z), (cl t z x, cl t z y)]) ⟨by simp only; omega, hQ'.symm, fun _ => rfl⟩ (by simp only; omega) ⟨[((1,0),(1,0)), ((2,0),(2,0)), ((4,0),(4,0)), ((336,0),(60,0))], rfl, ?_, ?_⟩
                        · simp [wkEnv, lk, renV, renAt, renTo, w4, pV]
                        · simp [wkMem, wkLoc, Mem.get, assoc, renBlk, renSegs, renSg, renTo, pA, pB, hfp, Nat.add_mul]; rfl
                      · simp only [absE, absL, absF, reduceCtorEq, ↓reduceIte, Nat.reduceEqDiff, Nat.reduceAdd, Nat.reduceLT, Nat.reduceMul, Nat.reduceSub, Nat.reduceLeDiff, Int.reduceLT, Int.reduceLE, Int.reduceEq, Option.isSome_some, implies_true, false_implies, Prod.mk.injEq, ne_eq, not_false_eq_true, not_true_eq_false, ge_iff_le, gt_iff_lt, Int.toNat_natCast, Int.reduceToNat, Int.cast_ofNat_Int, Int.natCast_nonneg, h4, xi, yi, zi, n1, n2, n3, n4, k1, k2, k3, k4, w1, w2, w3', w4', pV, pA, pB]
                        repeat first | refine And.intro (by decide +kernel) ?_ | refine And.intro (by omega) ?_
                        refine LoopNext.intro (z + 1, true, Q ++ [(cl t x z, cl t y z), (cl t z x, cl t z y)]) ⟨by simp only; omega, hQ'.symm, fun _ => rfl⟩ (by simp only; omega) ⟨[((1,0),(1,0)), ((2,0),(2,0)), ((4,0),(4,0)), ((336,0),(60,0))], rfl, ?_, ?_⟩
                        · simp [wkEnv, lk, renV, renAt, renTo, w4, pV]
                        · simp [wkMem, wkLoc, Mem.get, assoc, renBlk, renSegs, renSg, renTo, pA, pB, hfp, Nat.add_mul]; rfl
                    · obtain rfl : z = i := by omega
                      obtain rfl := hb' (by have := hs.1; omega)
                      simp only [absE, absL, absF, reduceCtorEq, ↓reduceIte, Nat.reduceEqDiff, Nat.reduceAdd, Nat.reduceLT, Nat.reduceMul, Nat.reduceSub, Nat.reduceLeDiff, Int.reduceLT, Int.reduceLE, Int.reduceEq, Option.isSome_some, implies_true, false_implies, Prod.mk.injEq, ne_eq, not_false_eq_true, not_true_eq_false, ge_iff_le, gt_iff_lt, Int.toNat_natCast, Int.reduceToNat, Int.cast_ofNat_Int, Int.natCast_nonneg, h4, pV, pA, pB]
                      refine LoopNext.intro (m, k + 1, true, Q, mergeF c (c x) (c y)) ⟨?_, ?_, fun e => (by cases e), fun _ => hany⟩ (by simp) ⟨[((1,0),(1,0)), ((2,0),(2,0)), ((4,0),(4,0)), ((60,0),(60,0))], rfl, ?_, ?_⟩
                      · simp only; rw [hQ]; exact hI.merge hN (fun a b ha hb => hs.cl_lt ha hb) hk' hx hy e
                      · simp only; rw [hQ]; exact (clsGo_merge hk' hx hy e).symm.trans hgo
                      · simp [wkEnv, lk, renV, renAt, renTo, w, pV, pA, pB]
                      · simp [wkMem, wkLoc, Mem.get, assoc, renBlk, renSegs, renSg, renTo, w, pV, pA, pB]
          · by_cases e : c x = c y
            · have he : ((c x : Nat) : Int) = (c y : Nat) := by rw [e]
              simp only [absE, absL, absF, reduceCtorEq, ↓reduceIte, Nat.reduceEqDiff, Nat.reduceAdd, Nat.reduceLT, Nat.reduceMul, Nat.reduceSub, Nat.reduceLeDiff, Int.reduceLT, Int.reduceLE, Int.reduceEq, Option.isSome_some, implies_true, false_implies, Prod.mk.injEq, ne_eq, not_false_eq_true, not_true_eq_false, ge_iff_le, gt_iff_lt, Int.toNat_natCast, Int.reduceToNat, Int.cast_ofNat_Int, Int.natCast_nonneg, hk, pV, pA, pB, f1, f2, u1, u2, xi, yi, v1, v2, q1, q2, he]
              repeat first | refine And.intro (by decide +kernel) ?_ | refine And.intro (by omega) ?_
              refine LoopNext.intro (m, k + 1, true, P, c) ⟨hsame (by rw [hx, hy]; exact e), (clsGo_same hk' hx hy e).symm.trans hgo, hb0, hb1⟩ (by simp) ⟨[((1,0),(1,0)), ((2,0),(2,0)), ((4,0),(4,0)), ((60,0),(60,0))], rfl, ?_, ?_⟩
              · simp [wkEnv, lk, renV, renAt, renTo, w, pV, pA, pB]
              · simp [wkMem, wkLoc, Mem.get, assoc, renBlk, renSegs, renSg, renTo, w, pV, pA, pB]
            · have he : ¬((c x : Nat) : Int) = (c y : Nat) := by omega
              have hany : anyNe P0 = true := hb1 rfl
              have hlt := fun j (hj : j < i) => hI.lab.lt j hj
              simp only [absE, absL, absF, reduceCtorEq, ↓reduceIte, Nat.reduceEqDiff, Nat.reduceAdd, Nat.reduceLT, Nat.reduceMul, Nat.reduceSub, Nat.reduceLeDiff, Int.reduceLT, Int.reduceLE, Int.reduceEq, Option.isSome_some, implies_true, false_implies, Prod.mk.injEq, ne_eq, not_false_eq_true, not_true_eq_false, ge_iff_le, gt_iff_lt, Int.toNat_natCast, Int.reduceToNat, Int.cast_ofNat_Int, Int.natCast_nonneg, hk, pV, pA, pB, f1, f2, u1, u2, xi, yi, v1, v2, q1, q2, he]
              repeat first | refine And.intro (by decide +kernel) ?_ | refine And.intro (by omega) ?_
              refine awpLoop.intro (fun j : Nat => [(1, pV true P.length), (2, .ref (.ptr 1 0 0 0)), (4, .ref (.ptr 2 0 0 0)), (5, .ref (.ptr 4 0 0 0)), (7, .i .i64 k), (8, .i .i64 x), (9, .i .i64 y), (10, .i .i64 (c x)), (11, .i .i64 (c y)), (12, .i .i64 j)]) (fun j => ⟨[pA true P], [((1, 0), .lv true (sqS i t)), ((2, 0), .lv true ([(0, .ints .i64 10 (List.replicate 10 0))])), ((4, 0), .lv true ([(0, .ints .i64 10 (f10 (mgF c (c x) (c y) j) i))]))] ++ pB true P, 200⟩)
                (fun j => j ≤ i) (fun j => i - j) 0 (by omega) ⟨[((1,0),(1,0)), ((2,0),(2,0)), ((4,0),(4,0)), ((60,0),(60,0))], rfl, ?_, ?_⟩ ?_
              · simp [wkEnv, lk, renV, renAt, renTo, pV, pA, pB, mgF_zero]
              · simp [wkMem, wkLoc, Mem.get, assoc, renBlk, renSegs, renSg, renTo, pV, pA, pB, mgF_zero]
              · intro j hj
                by_cases h3 : (j : Int) < i
                · have w3 := wrap_i64s (show j < 2 ^ 62 by omega)
                  have ji : (j : Int) < 10 := by omega
                  have j1 : 0 + j * 1 < 10 := by omega
                  have j2 : 0 + j * 1 + 1 ≤ 10 := by omega
                  have qj : (f10 (mgF c (c x) (c y) j) i).getD (0 + j * 1) 0 = (c j : Int) := by
                    rw [Nat.zero_add, Nat.mul_one, f10_get hN (by omega)]; unfold mgF; rw [if_neg (by omega)]
                  by_cases e3 : c j = c y
                  · have he3 : ((c j : Nat) : Int) = (c y : Nat) := by rw [e3]
                    have es : (f10 (mgF c (c x) (c y) j) i).set (0 + j * 1) (c x : Int) = f10 (mgF c (c x) (c y) (j + 1)) i := by
                      rw [Nat.zero_add, Nat.mul_one]
                      refine f10_set hN (by omega) (by unfold mgF mergeF; rw [if_pos (by omega), if_pos e3]) fun j' hj' hne => ?_
                      unfold mgF
                      by_cases h4 : j' < j
                      · rw [if_pos h4, if_pos (by omega)]
                      · rw [if_neg h4, if_neg (by omega)]
                    simp only [absE, absL, absF, reduceCtorEq, ↓reduceIte, Nat.reduceEqDiff, Nat.reduceAdd, Nat.reduceLT, Nat.reduceMul, Nat.reduceSub, Nat.reduceLeDiff, Int.reduceLT, Int.reduceLE, Int.reduceEq, Option.isSome_some, implies_true, false_implies, Prod.mk.injEq, ne_eq, not_false_eq_true, not_true_eq_false, ge_iff_le, gt_iff_lt, Int.toNat_natCast, Int.reduceToNat, Int.cast_ofNat_Int, Int.natCast_nonneg, h3, ji, j1, j2, qj, he3, es, pV, pA, pB]
                    repeat first | refine And.intro (by decide +kernel) ?_ | refine And.intro (by omega) ?_
                    refine LoopNext.intro (j + 1) (by omega) (by omega) ⟨[((1,0),(1,0)), ((2,0),(2,0)), ((4,0),(4,0)), ((60,0),(60,0))], rfl, ?_, ?_⟩
                    · simp [wkEnv, lk, renV, renAt, renTo, w3, pV, pA, pB]
                    · simp [wkMem, wkLoc, Mem.get, assoc, renBlk, renSegs, renSg, renTo, w3, pV, pA, pB]
                  · have he3 : ¬((c j : Nat) : Int) = (c y : Nat) := by omega
                    have es : f10 (mgF c (c x) (c y) j) i = f10 (mgF c (c x) (c y) (j + 1)) i := f10_congr fun j' hj' => by
                      unfold mgF
                      by_cases h4 : j' < j
                      · rw [if_pos h4, if_pos (by omega)]
                      · rw [if_neg h4]
                        by_cases h5 : j' < j + 1
                        · obtain rfl : j' = j := by omega
                          rw [if_pos h5, mergeF, if_neg e3]
                        · rw [if_neg h5]
                    simp only [absE, absL, absF, reduceCtorEq, ↓reduceIte, Nat.reduceEqDiff, Nat.reduceAdd, Nat.reduceLT, Nat.reduceMul, Nat.reduceSub, Nat.reduceLeDiff, Int.reduceLT, Int.reduceLE, Int.reduceEq, Option.isSome_some, implies_true, false_implies, Prod.mk.injEq, ne_eq, not_false_eq_true, not_true_eq_false, ge_iff_le, gt_iff_lt, Int.toNat_natCast, Int.reduceToNat, Int.cast_ofNat_Int, Int.natCast_nonneg, h3, ji, j1, j2, qj, he3, pV, pA, pB]
                    repeat first | refine And.intro (by decide +kernel) ?_ | refine And.intro (by omega) ?_
                    refine LoopNext.intro (j + 1) (by omega) (by omega) ⟨[((1,0),(1,0)), ((2,0),(2,0)), ((4,0),(4,0)), ((60,0),(60,0))], rfl, ?_, ?_⟩
                    · simp [wkEnv, lk, renV, renAt, renTo, w3, pV, pA, pB, es]
                    · simp [wkMem, wkLoc, Mem.get, assoc, renBlk, renSegs, renSg, renTo, w3, pV, pA, pB, es]
                · have hji : j = i := by omega
                  have es : f10 (mgF c (c x) (c y) j) i = f10 (mergeF c (c x) (c y)) i := by rw [hji]; exact f10_congr fun j' hj' => by unfold mgF; rw [if_pos hj']
                  simp only [absE, absL, absF, reduceCtorEq, ↓reduceIte, Nat.reduceEqDiff, Nat.reduceAdd, Nat.reduceLT, Nat.reduceMul, Nat.reduceSub, Nat.reduceLeDiff, Int.reduceLT, Int.reduceLE, Int.reduceEq, Option.isSome_some, implies_true, false_implies, Prod.mk.injEq, ne_eq, not_false_eq_true, not_true_eq_false, ge_iff_le, gt_iff_lt, Int.toNat_natCast, Int.reduceToNat, Int.cast_ofNat_Int, Int.natCast_nonneg, h3, pV, pA, pB, es]
                  refine awpLoop.intro (fun s : Nat × Bool × List (Nat × Nat) => [(1, pV s.2.1 s.2.2.length), (2, .ref (.ptr 1 0 0 0)), (4, .ref (.ptr 2 0 0 0)), (5, .ref (.ptr 4 0 0 0)), (7, .i .i64 k), (8, .i .i64 x), (9, .i .i64 y), (13, .i .i64 s.1)]) (fun s => ⟨[pA s.2.1 s.2.2], [((1, 0), .lv true (sqS i t)), ((2, 0), .lv true ([(0, .ints .i64 10 (List.replicate 10 0))])), ((4, 0), .lv true ([(0, .ints .i64 10 (f10 (mergeF c (c x) (c y)) i))]))] ++ pB s.2.1 s.2.2, 300⟩)
                    (fun s => s.1 ≤ i ∧ s.2.2 = P ++ trans2 (cl t) x y s.1 ∧ (0 < s.1 → s.2.1 = true)) (fun s => i - s.1) (0, true, P) ⟨by simp, by simp [trans2], fun hh => absurd hh (by simp)⟩ ⟨[((1,0),(1,0)), ((2,0),(2,0)), ((4,0),(4,0)), ((60,0),(60,0))], rfl, ?_, ?_⟩ ?_
                  · simp [wkEnv, lk, renV, renAt, renTo, pV, pA, pB]
                  · simp [wkMem, wkLoc, Mem.get, assoc, renBlk, renSegs, renSg, renTo, pV, pA, pB]
                  · rintro ⟨z, b', Q⟩ ⟨hz, hQ, hb'⟩
                    simp only at hz hQ hb'
                    by_cases h4 : (z : Int) < i
                    · have w4 := wrap_i64s (show z < 2 ^ 62 by omega)
                      have zi : (z : Int) < 10 := by omega
                      have hz' : z < i := by omega
                      have hQl : Q.length ≤ 1300 := by rw [hQ, List.length_append, trans2_len]; omega
                      have n1 : 0 + x * 10 + z * 1 < 100 := by omega
                      have n2 : 0 + y * 10 + z * 1 < 100 := by omega
                      have n3 : 0 + z * 10 + x * 1 < 100 := by omega
                      have n4 : 0 + z * 10 + y * 1 < 100 := by omega
                      have k1 := sq_colget ht x z
                      have k2 := sq_colget ht y z
                      have k3 := sq_colget ht z x
                      have k4 := sq_colget ht z y
                      have l1 := hs.cl_lt hp.1 hz'
                      have l2 := hs.cl_lt hp.2.1 hz'
                      have l3 := hs.cl_lt hz' hp.1
                      have l4 := hs.cl_lt hz' hp.2.1
                      have w1 := wrap_i64n (show cl t x z < 2 ^ 62 by omega)
                      have w2 := wrap_i64n (show cl t y z < 2 ^ 62 by omega)
                      have w3' := wrap_i64n (show cl t z x < 2 ^ 62 by omega)
                      have w4' := wrap_i64n (show cl t z y < 2 ^ 62 by omega)
                      have hQ' : P ++ trans2 (cl t) x y (z + 1) = Q ++ [(cl t x z, cl t y z), (cl t z x, cl t z y)] := by rw [trans2, ← List.append_assoc, ← hQ]
                      have hfp : fp (Q ++ [(cl t x z, cl t y z), (cl t z x, cl t z y)]) = fp Q ++ [(cl t x z : Int), (cl t y z : Int), (cl t z x : Int), (cl t z y : Int)] := by rw [fp_app]; rfl
                      cases b'
                      · simp only [absE, absL, absF, reduceCtorEq, ↓reduceIte, Nat.reduceEqDiff, Nat.reduceAdd, Nat.reduceLT, Nat.reduceMul, Nat.reduceSub, Nat.reduceLeDiff, Int.reduceLT, Int.reduceLE, Int.reduceEq, Option.isSome_some, implies_true, false_implies, Prod.mk.injEq, ne_eq, not_false_eq_true, not_true_eq_false, ge_iff_le, gt_iff_lt, Int.toNat_natCast, Int.reduceToNat, Int.cast_ofNat_Int, Int.natCast_nonneg, h4, xi, yi, zi, n1, n2, n3, n4, k1, k2, k3, k4, w1, w2, w3', w4', pV, pA, pB]
                        repeat first | refine And.intro (by decide +kernel) ?_ | refine And.intro (by omega) ?_
                        refine LoopNext.intro (z + 1, true, Q ++ [(cl t x z, cl t y z), (cl t z x, cl t z y)]) ⟨by simp only; omega, hQ'.symm, fun _ => rfl⟩ (by simp only; omega) ⟨[((1,0),(1,0)), ((2,0),(2,0)), ((4,0),(4,0)), ((336,0),(60,0))], rfl, ?_, ?_⟩
                        · simp [wkEnv, lk, renV, renAt, renTo, w4, pV]
                        · simp [wkMem, wkLoc, Mem.get, assoc, renBlk, renSegs, renSg, renTo, pA, pB, hfp, Nat.add_mul]; rfl
                      · simp only [absE, absL, absF, reduceCtorEq, ↓reduceIte, Nat.reduceEqDiff, Nat.reduceAdd, Nat.reduceLT, Nat.reduceMul, Nat.reduceSub, Nat.reduceLeDiff, Int.reduceLT, Int.reduceLE, Int.reduceEq, Option.isSome_some, implies_true, false_implies, Prod.mk.injEq, ne_eq, not_false_eq_true, not_true_eq_false, ge_iff_le, gt_iff_lt, Int.toNat_natCast, Int.reduceToNat, Int.cast_ofNat_Int, Int.natCast_nonneg, h4, xi, yi, zi, n1, n2, n3, n4, k1, k2, k3, k4, w1, w2, w3', w4', pV, pA, pB]
                        repeat first | refine And.intro (by decide +kernel) ?_ | refine And.intro (by omega) ?_
                        refine LoopNext.intro (z + 1, true, Q ++ [(cl t x z, cl t y z), (cl t z x, cl t z y)]) ⟨by simp only; omega, hQ'.symm, fun _ => rfl⟩ (by simp only; omega) ⟨[((1,0),(1,0)), ((2,0),(2,0)), ((4,0),(4,0)), ((336,0),(60,0))], rfl, ?_, ?_⟩
                        · simp [wkEnv, lk, renV, renAt, renTo, w4, pV]
                        · simp [wkMem, wkLoc, Mem.get, assoc, renBlk, renSegs, renSg, renTo, pA, pB, hfp, Nat.add_mul]; rfl
                    · obtain rfl : z = i := by omega
                      obtain rfl := hb' (by have := hs.1; omega)
                      simp only [absE, absL, absF, reduceCtorEq, ↓reduceIte, Nat.reduceEqDiff, Nat.reduceAdd, Nat.reduceLT, Nat.reduceMul, Nat.reduceSub, Nat.reduceLeDiff, Int.reduceLT, Int.reduceLE, Int.reduceEq, Option.isSome_some, implies_true, false_implies, Prod.mk.injEq, ne_eq, not_false_eq_true, not_true_eq_false, ge_iff_le, gt_iff_lt, Int.toNat_natCast, Int.reduceToNat, Int.cast_ofNat_Int, Int.natCast_nonneg, h4, pV, pA, pB]
                      refine LoopNext.intro (m, k + 1, true, Q, mergeF c (c x) (c y)) ⟨?_, ?_, fun e => (by cases e), fun _ => hany⟩ (by simp) ⟨[((1,0),(1,0)), ((2,0),(2,0)), ((4,0),(4,0)), ((60,0),(60,0))], rfl, ?_, ?_⟩
                      · simp only; rw [hQ]; exact hI.merge hN (fun a b ha hb => hs.cl_lt ha hb) hk' hx hy e
                      · simp only; rw [hQ]; exact (clsGo_merge hk' hx hy e).symm.trans hgo
                      · simp [wkEnv, lk, renV, renAt, renTo, w, pV, pA, pB]
                      · simp [wkMem, wkLoc, Mem.get, assoc, renBlk, renSegs, renSg, renTo, w, pV, pA, pB]
        · have hfin : f10 c i = f10 (clsR0 i (cl t) P0) i := by rw [← hgo, clsGo_end (by omega)]
          cases b
          · obtain ⟨rfl, rfl⟩ := hb0 rfl
            have hany : anyNe P = false := by
              cases ha : anyNe P
              · rfl
              · obtain ⟨p, hp, hne⟩ := List.any_eq_true.1 ha
                obtain ⟨j, hj, rfl⟩ := List.getElem_of_mem hp
                have := hI.done j (by have := hI.kl; omega) hj
                simp [hj] at this
                simp [this] at hne
            simp only [absE, absL, absF, reduceCtorEq, ↓reduceIte, Nat.reduceEqDiff, Nat.reduceAdd, Nat.reduceLT, Nat.reduceMul, Nat.reduceSub, Nat.reduceLeDiff, Int.reduceLT, Int.reduceLE, Int.reduceEq, Option.isSome_some, implies_true, false_implies, Prod.mk.injEq, ne_eq, not_false_eq_true, not_true_eq_false, ge_iff_le, gt_iff_lt, Int.toNat_natCast, Int.reduceToNat, Int.cast_ofNat_Int, Int.natCast_nonneg, hk, pV, pA, pB, hfin, Try.results74]
            exact ⟨[], by simp, by simp, by simp [renV, renSegs, renSg], by simp [renBlk, renSegs, renSg, hany], by simp⟩
          · have hany := hb1 rfl
            simp only [absE, absL, absF, reduceCtorEq, ↓reduceIte, Nat.reduceEqDiff, Nat.reduceAdd, Nat.reduceLT, Nat.reduceMul, Nat.reduceSub, Nat.reduceLeDiff, Int.reduceLT, Int.reduceLE, Int.reduceEq, Option.isSome_some, implies_true, false_implies, Prod.mk.injEq, ne_eq, not_false_eq_true, not_true_eq_false, ge_iff_le, gt_iff_lt, Int.toNat_natCast, Int.reduceToNat, Int.cast_ofNat_Int, Int.natCast_nonneg, hk, pV, pA, pB, hfin, Try.results74]
            exact ⟨[], by simp, by simp, by simp [renV, renSegs, renSg], by simp [renBlk, renSegs, renSg, hany], by simp⟩

end Go.Proofs.Ytoccbgffekhcaaa

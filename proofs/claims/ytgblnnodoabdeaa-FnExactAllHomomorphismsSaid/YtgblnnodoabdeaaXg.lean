/-
Contracts of functions of the given program, by the abstract walk.
-/
import Derived.Test.YtgblnnodoabdeaaAbsY
import Derived.Test.YtgblnnodoabdeaaXf
namespace Go.Proofs.Ytgblnnodoabdeaa
open Go Go.Abs
set_option linter.unusedVariables false
set_option linter.unusedSectionVars false
set_option linter.unusedSimpArgs false
set_option maxRecDepth 100000
/-! homomorphisms: the program's search -/
theorem rowH_next {i : Nat} {f : List Int} : rowH (i + 1) f = rowH i f ++ [((pl f i : Nat) : Int)] := by
  unfold rowH; rw [List.range_succ, List.map_append]; rfl
theorem hfin2 {mem : Mem} {t B k : Nat} {cs : List Atom} {A A2 : LLs} (ht : t ≠ 0) (hB : B ≠ 0) (htB : t ≠ B) (h : mem.get t 0 = .lv true [(0, .cells k (cs ++ outs B 0 A ++ outs t 1 A2))]) (hg : ∀ j, j < A.length → mem.get B (0 + j) = ib (at_ A j)) (hg2 : ∀ j, j < A2.length → mem.get t (1 + j) = ib (at_ A2 j)) (hc : ∀ keep, cs.map (renAt (renFin keep)) = cs) :
    ((t, 0) :: (srcs B 0 A.length ++ srcs t 1 A2.length)).map (fun q => renBlk (renFin ((t, 0) :: (srcs B 0 A.length ++ srcs t 1 A2.length))) (mem.get q.1 q.2)) = .lv true [(0, .cells k (cs ++ outs 1 1 (A ++ A2)))] :: inn (A ++ A2) := by
  have r1 : ∀ j, j < A.length → renFin ((t, 0) :: (srcs B 0 A.length ++ srcs t 1 A2.length)) B (0 + j) = some (1, 1 + j) := fun j hj => by
    simp only [renFin, idx, hB, htB, false_and, if_false, idx_app, idx_srcs_in hj]
    simp; omega
  have r2 : ∀ j, j < A2.length → renFin ((t, 0) :: (srcs B 0 A.length ++ srcs t 1 A2.length)) t (1 + j) = some (1, 1 + A.length + j) := fun j hj => by
    have e : idx (srcs B 0 A.length) t (1 + j) = none := by rw [idx_srcs, if_neg]; rintro ⟨h1, _⟩; exact htB h1
    have e2 : ¬ (t = t ∧ 0 = 1 + j) := by omega
    simp only [renFin, idx, ht, e2, if_false, idx_app, e, idx_srcs_in hj, srcs_len]
    have e3 : ¬ 0 = 1 + j := by omega
    simp [e3]; omega
  rw [List.map_cons, List.map_append, srcs_get hg, srcs_get hg2, h, inn_append]
  simp only [renBlk, renSegs, renSg, List.map_append, hc, outs_ren r1, outs_ren r2, outs_append, List.append_assoc]
theorem keep2_nodup {t B a b : Nat} (htB : t ≠ B) : ((t, 0) :: (srcs B 0 a ++ srcs t 1 b) : List Abs.Id).Nodup := by
  rw [List.nodup_cons, List.nodup_append]
  refine ⟨fun h => ?_, srcs_nodup, srcs_nodup, fun p hp q hq e => ?_⟩
  · rcases List.mem_append.1 h with h | h
    · exact htB (srcs_mem.1 h).1
    · have := (srcs_mem.1 h).2.1; simp at this
  · have h1 := (srcs_mem.1 hp).1
    have h2 := (srcs_mem.1 hq).1
    rw [e] at h1
    exact htB (h2.symm.trans h1)
theorem keep2_keep {t B a b : Nat} (ht : t ≠ 0) (hB : B ≠ 0) : ∀ p ∈ ((t, 0) :: (srcs B 0 a ++ srcs t 1 b) : List Abs.Id), p.1 ≠ 0 := by
  intro p hp
  rcases List.mem_cons.1 hp with rfl | hp
  · exact ht
  · rcases List.mem_append.1 hp with hp | hp
    · rw [(srcs_mem.1 hp).1]; exact hB
    · rw [(srcs_mem.1 hp).1]; exact ht
def ioA (n : Nat) : Bool → LLs → Atom
  | false, _ => .sl 0 4 0 0 n 1
  | true, A => .sl 50 0 0 0 (n + A.length) 1
def ioB (cs : List Atom) (n : Nat) : Bool → Blk
  | false => .lv true [(0, .cells n cs)]
  | true => .dead
set_option maxHeartbeats 4000000 in
theorem hsearch_ok (N M : Nat) (t s : List Int) (ht : Bytes 100 t) (hs : Bytes 100 s) (st : SqP N t) (ss : SqP M s) : ∀ d (f : List Int) (n : Nat) (cs : List Atom) (E : List Blk), PGood false N M t s f → N < cntL f N + d → n ≤ 2000 → Opq 5 cs E →
    ACalls Try.prog 71 [.agg (sdS N t M s f), .ref (.ptr 0 0 0 0), .ref (.ptr 0 1 0 0), .ref (.ptr 0 2 0 0), .ref (.ptr 0 3 0 0)] (P4 N M t s (.sl 0 4 0 0 n 1) (.lv true [(0, .cells n cs)]) E)
      (fun v ms ns => HI N M t s cs E n (hsm N M t s leM d f n) v ms ns) := by
  have hN := st.le
  have hN1 := st.pos
  have hM := ss.le
  intro d
  induction d with
  | zero => intro f n cs E _ h; have := cnt_le (f := f) (k := N); omega
  | succ d ih =>
    intro f n cs E hf hd hn hE
    have hc0 : ∀ σ : Pairs, cs.map (renAt (renTo σ)) = cs := fun σ => (hE.ren _ fun k _ _ => by cases σ <;> simp [renTo]).1
    have hE0 : ∀ σ : Pairs, E.map (renBlk (renTo σ)) = E := fun σ => (hE.ren _ fun k _ _ => by cases σ <;> simp [renTo]).2
    have hc1 : ∀ keep, cs.map (renAt (renFin keep)) = cs := fun keep => (hE.ren _ fun k _ _ => renFin_zero k).1
    have hE1 : ∀ keep, E.map (renBlk (renFin keep)) = E := fun keep => (hE.ren _ fun k _ _ => renFin_zero k).2
    have hXle : fnd (pl f) 255 N ≤ N := fnd_le
    have hbe : ∀ i, i < fnd (pl f) 255 N → pl f i ≠ 255 := fun i hi => fnd_none hi
    unfold P4
    refine acalls_of_body mix Try.func71 rfl fok71 (Nat.le_of_ble_eq_true rfl) ?_
    unfold abody
    simp only [absE, absL, absF, reduceCtorEq, ↓reduceIte, Nat.reduceEqDiff, Nat.reduceAdd, Nat.reduceLT, Nat.reduceMul, Nat.reduceSub, Nat.reduceLeDiff, Int.reduceLT, Int.reduceLE, Int.reduceEq, Option.isSome_some, implies_true, false_implies, Prod.mk.injEq, ne_eq, not_false_eq_true, not_true_eq_false, ge_iff_le, gt_iff_lt, Int.toNat_natCast, Int.reduceToNat, Int.cast_ofNat_Int, Int.natCast_nonneg, Try.f71]
    refine CallsVia.none (elements_ok N t hN) ?_
    rintro _ _ _ ⟨rfl, rfl, rfl⟩
    simp only [absE, absL, absF, reduceCtorEq, ↓reduceIte, Nat.reduceEqDiff, Nat.reduceAdd, Nat.reduceLT, Nat.reduceMul, Nat.reduceSub, Nat.reduceLeDiff, Int.reduceLT, Int.reduceLE, Int.reduceEq, Option.isSome_some, implies_true, false_implies, Prod.mk.injEq, ne_eq, not_false_eq_true, not_true_eq_false, ge_iff_le, gt_iff_lt, Int.toNat_natCast, Int.reduceToNat, Int.cast_ofNat_Int, Int.natCast_nonneg]
    refine awpLoop.intro (fun x : Nat => [(1, .ref (.ptr 0 0 0 0)), (2, .ref (.ptr 0 1 0 0)), (3, .ref (.ptr 0 2 0 0)), (4, .ref (.ptr 0 3 0 0)), (5, .ref (.ptr 1 0 0 0)), (6, .b false), (16, .ref (.sl 4 0 0 0 N 1)), (17, .i .i64 N), (18, .i .i64 x)]) (fun x => ⟨P4 N M t s (.sl 0 4 0 0 n 1) (.lv true [(0, .cells n cs)]) E, [((1, 0), .lv true (sdS N t M s f)), ((4, 0), .lv true ([(0, .ints .u8 N (bytesTo N))]))], 30⟩) (fun x => x ≤ fnd (pl f) 255 N) (fun x => fnd (pl f) 255 N - x) 0 (by omega) ⟨[((1,0),(1,0)), ((4,0),(4,0))], rfl, ?_, ?_⟩ ?_
    · simp [wkEnv, lk, renV, renAt, renTo]
    · simp only [wkMem, P4, List.map_cons, List.map_nil, renBlk, renSegs, renSg, hc0, hE0]
      simp [wkLoc, Mem.get, assoc, renBlk, renSegs, renSg, renAt, renCaps, renTo]
    · intro x hxX
      have w := wrap_i64s (show x < 2 ^ 62 by omega)
      by_cases hlt : x < fnd (pl f) 255 N
      · have h : (x : Int) < N := by omega
        have b1 : (bytesTo N).getD (0 + x * 1) 0 = (x : Int) := by rw [Nat.zero_add, Nat.mul_one]; exact bytesTo_get (by omega)
        have v1 : 0 + x * 1 < N := by omega
        have x10 : (x : Int) < 10 := by omega
        have x11 : 0 + x * 1 < 10 := by omega
        have k1 : f.getD (0 + x * 1) 0 = ((pl f x : Nat) : Int) := by rw [Nat.zero_add, Nat.mul_one]; exact hf.pm.by_.place x
        have n1 : ¬ ((pl f x : Nat) : Int) = 255 := by have := hbe x hlt; omega
        simp only [absE, absL, absF, reduceCtorEq, ↓reduceIte, Nat.reduceEqDiff, Nat.reduceAdd, Nat.reduceLT, Nat.reduceMul, Nat.reduceSub, Nat.reduceLeDiff, Int.reduceLT, Int.reduceLE, Int.reduceEq, Option.isSome_some, implies_true, false_implies, Prod.mk.injEq, ne_eq, not_false_eq_true, not_true_eq_false, ge_iff_le, gt_iff_lt, Int.toNat_natCast, Int.reduceToNat, Int.cast_ofNat_Int, Int.natCast_nonneg, h, b1, v1, x10, x11, k1, n1, P4]
        refine LoopNext.intro (x + 1) (by omega) (by omega) ⟨[((1,0),(1,0)), ((4,0),(4,0))], rfl, ?_, ?_⟩
        · simp [wkEnv, lk, renV, renAt, renTo, w]
        · simp only [wkMem, P4, List.map_cons, List.map_nil, renBlk, renSegs, renSg, hc0, hE0]
          simp [wkLoc, Mem.get, assoc, renBlk, renSegs, renSg, renAt, renCaps, renTo]
      · obtain hX : fnd (pl f) 255 N = x := by omega
        by_cases hxN : x < N
        · have hfx : pl f x = 255 := by rw [← hX]; exact fnd_at (by omega)
          have e1 : hsm N M t s leM (d + 1) f n = hmIn N M t s leM (hsm N M t s leM d) f x n M := by rw [hsm, if_pos (by omega), hX]
          rw [e1]
          have h : (x : Int) < N := by omega
          have b1 : (bytesTo N).getD (0 + x * 1) 0 = (x : Int) := by rw [Nat.zero_add, Nat.mul_one]; exact bytesTo_get (by omega)
          have v1 : 0 + x * 1 < N := by omega
          have x10 : (x : Int) < 10 := by omega
          have x11 : 0 + x * 1 < 10 := by omega
          have k1 : f.getD (0 + x * 1) 0 = 255 := by rw [Nat.zero_add, Nat.mul_one]; rw [hf.pm.by_.place x, hfx]; rfl
          simp only [absE, absL, absF, reduceCtorEq, ↓reduceIte, Nat.reduceEqDiff, Nat.reduceAdd, Nat.reduceLT, Nat.reduceMul, Nat.reduceSub, Nat.reduceLeDiff, Int.reduceLT, Int.reduceLE, Int.reduceEq, Option.isSome_some, implies_true, false_implies, Prod.mk.injEq, ne_eq, not_false_eq_true, not_true_eq_false, ge_iff_le, gt_iff_lt, Int.toNat_natCast, Int.reduceToNat, Int.cast_ofNat_Int, Int.natCast_nonneg, h, b1, v1, x10, x11, k1, P4]
          refine CallsVia.none (elements_ok M s hM) ?_
          rintro _ _ _ ⟨rfl, rfl, rfl⟩
          simp only [absE, absL, absF, reduceCtorEq, ↓reduceIte, Nat.reduceEqDiff, Nat.reduceAdd, Nat.reduceLT, Nat.reduceMul, Nat.reduceSub, Nat.reduceLeDiff, Int.reduceLT, Int.reduceLE, Int.reduceEq, Option.isSome_some, implies_true, false_implies, Prod.mk.injEq, ne_eq, not_false_eq_true, not_true_eq_false, ge_iff_le, gt_iff_lt, Int.toNat_natCast, Int.reduceToNat, Int.cast_ofNat_Int, Int.natCast_nonneg]
          refine awpLoop.intro (fun S : Nat × Bool × LLs => [(1, .ref (.ptr 0 0 0 0)), (2, .ref (.ptr 0 1 0 0)), (3, .ref (.ptr 0 2 0 0)), (4, .ref (.ptr 0 3 0 0)), (5, .ref (.ptr 1 0 0 0)), (6, .b false), (8, .i .u8 x), (28, .ref (.sl 40 0 0 0 M 1)), (29, .i .i64 M), (30, .i .i64 S.1)]) (fun S => ⟨P4 N M t s (ioA n S.2.1 S.2.2) (ioB cs n S.2.1) E, [((1, 0), .lv true (sdS N t M s f)), ((40, 0), .lv true ([(0, .ints .u8 M (bytesTo M))]))] ++ mmH cs n S.2.1 S.2.2, 60⟩)
            (fun S => S.1 ≤ M ∧ S.2.2 = hmIn N M t s leM (hsm N M t s leM d) f x n S.1 ∧ (S.2.1 = false → S.2.2 = []) ∧ (S.2.1 = true → S.2.2 ≠ []) ∧ n + S.2.2.length ≤ 2000) (fun S => M - S.1) (0, false, []) ⟨by simp, rfl, fun _ => rfl, by simp, by simpa using hn⟩ ⟨[((1,0),(1,0)), ((40,0),(40,0))], rfl, ?_, ?_⟩ ?_
          · simp [wkEnv, lk, renV, renAt, renTo]
          · simp only [wkMem, P4, List.map_cons, List.map_nil, renBlk, renSegs, renSg, hc0, hE0, ioA, ioB]
            simp [wkLoc, Mem.get, assoc, renBlk, renSegs, renSg, renAt, renCaps, renTo, mmH]
          · rintro ⟨y, c, A⟩ ⟨hy, hA, hc', hne, hln⟩
            simp only at hy hA hc' hne hln
            have step : hmIn N M t s leM (hsm N M t s leM d) f x n (y + 1) = (match lexp false N M t s f x y with | some g => A ++ hsm N M t s leM d g (n + A.length) | none => A) := by
              rw [hmIn, ← hA, if_pos (show leM (n + A.length) = true from decide_eq_true hln)]; rfl
            have hlb : leM (n + A.length) = true := decide_eq_true hln
            cases c
            · obtain rfl : A = [] := hc' rfl
              by_cases h : (y : Int) < M
              · have wy := wrap_i64s (show y < 2 ^ 62 by omega)
                have hyM : y < M := by omega
                have b2 : (bytesTo M).getD (0 + y * 1) 0 = (y : Int) := by rw [Nat.zero_add, Nat.mul_one]; exact bytesTo_get (by omega)
                have v2 : 0 + y * 1 < M := by omega
                have hP := puth_ok N M t s f x y ht hs st ss hf hxN hyM
                simp only [absE, absL, absF, reduceCtorEq, ↓reduceIte, Nat.reduceEqDiff, Nat.reduceAdd, Nat.reduceLT, Nat.reduceMul, Nat.reduceSub, Nat.reduceLeDiff, Int.reduceLT, Int.reduceLE, Int.reduceEq, Option.isSome_some, implies_true, false_implies, Prod.mk.injEq, ne_eq, not_false_eq_true, not_true_eq_false, ge_iff_le, gt_iff_lt, Int.toNat_natCast, Int.reduceToNat, Int.cast_ofNat_Int, Int.natCast_nonneg, h, b2, v2, P4, ioA, ioB, mmH]
                refine CallsVia.args [(65, 0)] hP (by simp) (by simp [Mem.get, assoc]) rfl rfl ?_
                rintro _ _ _ ⟨b, g, ⟨hg1, hg2⟩, rfl, rfl, rfl⟩
                cases b
                · have hX := lexp_none (hg2 rfl)
                  rw [hX] at step
                  simp only at step
                  simp only [absE, absL, absF, reduceCtorEq, ↓reduceIte, Nat.reduceEqDiff, Nat.reduceAdd, Nat.reduceLT, Nat.reduceMul, Nat.reduceSub, Nat.reduceLeDiff, Int.reduceLT, Int.reduceLE, Int.reduceEq, Option.isSome_some, implies_true, false_implies, Prod.mk.injEq, ne_eq, not_false_eq_true, not_true_eq_false, ge_iff_le, gt_iff_lt, Int.toNat_natCast, Int.reduceToNat, Int.cast_ofNat_Int, Int.natCast_nonneg]
                  refine LoopNext.intro (y + 1, false, []) ⟨by simp only; omega, by simp only [step], fun _ => rfl, by simp, by simpa using hn⟩ (by simp only; omega) ⟨[((1,0),(1,0)), ((40,0),(40,0))], rfl, ?_, ?_⟩
                  · simp [wkEnv, lk, renV, renAt, renTo, wy]
                  · simp only [wkMem, P4, List.map_cons, List.map_nil, renBlk, renSegs, renSg, hc0, hE0, ioA, ioB]
                    simp [wkLoc, Mem.get, assoc, renBlk, renSegs, renSg, renAt, renCaps, renTo, mmH]
                · have hLE := hg1 rfl
                  have hX := lexp_some hLE
                  have hgood := hLE.good
                  have hcg : N < cntL g N + d := by have := le_cnth hM hxN hyM hfx hLE; omega
                  rw [hX] at step
                  have hX2 := step
                  simp only [List.length_nil, Nat.add_zero] at hX2
                  have hS := ih g n cs E hgood hcg hn hE
                  generalize hsm N M t s leM d g n = A2 at hS hX2
                  simp only [absE, absL, absF, reduceCtorEq, ↓reduceIte, Nat.reduceEqDiff, Nat.reduceAdd, Nat.reduceLT, Nat.reduceMul, Nat.reduceSub, Nat.reduceLeDiff, Int.reduceLT, Int.reduceLE, Int.reduceEq, Option.isSome_some, implies_true, false_implies, Prod.mk.injEq, ne_eq, not_false_eq_true, not_true_eq_false, ge_iff_le, gt_iff_lt, Int.toNat_natCast, Int.reduceToNat, Int.cast_ofNat_Int, Int.natCast_nonneg]
                  refine CallsVia.hsearch0 (N := N) (M := M) (t := t) (s := s) (n := n) (cs := cs) (E := E) (by decide) hE hS (fun σ hσ => by simp [renVs, renV, renAt, renSegs, renSg, hσ]) (fun h2 ups rd hu => ?_) (fun hnn ups rd hu => ?_)
                  · simp only [P4] at hu
                    have hl2 : leM (n) = true := decide_eq_true hn
                    simp only [absE, absL, absF, reduceCtorEq, ↓reduceIte, Nat.reduceEqDiff, Nat.reduceAdd, Nat.reduceLT, Nat.reduceMul, Nat.reduceSub, Nat.reduceLeDiff, Int.reduceLT, Int.reduceLE, Int.reduceEq, Option.isSome_some, implies_true, false_implies, Prod.mk.injEq, ne_eq, not_false_eq_true, not_true_eq_false, ge_iff_le, gt_iff_lt, Int.toNat_natCast, Int.reduceToNat, Int.cast_ofNat_Int, Int.natCast_nonneg, hu, hl2]
                    refine LoopNext.intro (y + 1, false, []) ⟨by simp only; omega, by simp only [hX2, h2, List.append_nil], fun _ => rfl, by simp, by simpa using hn⟩ (by simp only; omega) ⟨[((1,0),(1,0)), ((40,0),(40,0))], rfl, ?_, ?_⟩
                    · simp [wkEnv, lk, renV, renAt, renTo, wy]
                    · simp only [wkMem, P4, List.map_cons, List.map_nil, renBlk, renSegs, renSg, hc0, hE0, ioA, ioB]
                      simp [wkLoc, Mem.get, assoc, renBlk, renSegs, renSg, renAt, renCaps, renTo, mmH]
                  · simp only [P4] at hu
                    cases hbb : leM (n + A2.length)
                    · have hst := hmIn_stop (N := N) (M := M) (t := t) (s := s) (lim := leM) (rec := hsm N M t s leM d) (f := f) (x := x) (n := n) (y := y + 1) (by rw [hX2, show n + ([] ++ A2 : LLs).length = n + A2.length by simp]; exact hbb) (z := M) (by omega)
                      rw [hX2] at hst
                      simp only [absE, absL, absF, reduceCtorEq, ↓reduceIte, Nat.reduceEqDiff, Nat.reduceAdd, Nat.reduceLT, Nat.reduceMul, Nat.reduceSub, Nat.reduceLeDiff, Int.reduceLT, Int.reduceLE, Int.reduceEq, Option.isSome_some, implies_true, false_implies, Prod.mk.injEq, ne_eq, not_false_eq_true, not_true_eq_false, ge_iff_le, gt_iff_lt, Int.toNat_natCast, Int.reduceToNat, Int.cast_ofNat_Int, Int.natCast_nonneg, hu, hbb, Try.results71]
                      exact ⟨(73, 0) :: (srcs 51 0 ([] : LLs).length ++ srcs 73 1 A2.length), keep2_nodup (by decide), keep2_keep (by decide) (by decide), by rw [hst]; exact ⟨by simp only [renV]; rw [show n + ([] ++ A2 : LLs).length = n + A2.length by simp, hbb], .inr ⟨by simp [hnn], by simp [P4, renBlk, renSegs, renSg, renAt, renCaps, renFin, idx, hE1]; try omega, hfin2 (t := 73) (B := 51) (A := []) (A2 := A2) (cs := cs) (by decide) (by decide) (by decide) (by simp only [Mem.get]; rw [if_neg (by decide), assoc_rbag_lt (by decide)]; simp [assoc, outs_nil]; try omega) (fun j hj => absurd hj (by simp)) (fun j hj => by
                        simp only [Mem.get]
                        rw [if_neg (by decide), assoc_rbag_in hj]) hc1⟩⟩⟩
                    · have hle : n + A2.length ≤ 2000 := of_decide_eq_true hbb
                      simp only [absE, absL, absF, reduceCtorEq, ↓reduceIte, Nat.reduceEqDiff, Nat.reduceAdd, Nat.reduceLT, Nat.reduceMul, Nat.reduceSub, Nat.reduceLeDiff, Int.reduceLT, Int.reduceLE, Int.reduceEq, Option.isSome_some, implies_true, false_implies, Prod.mk.injEq, ne_eq, not_false_eq_true, not_true_eq_false, ge_iff_le, gt_iff_lt, Int.toNat_natCast, Int.reduceToNat, Int.cast_ofNat_Int, Int.natCast_nonneg, hu, hbb]
                      refine LoopNext.intro (y + 1, true, [] ++ A2) ⟨by simp only; omega, by simp only [hX2], by simp, by simp [hnn], by simp only [List.length_append, List.length_nil]; omega⟩ (by simp only; omega) ⟨[((1, 0), (1, 0)), ((40, 0), (40, 0))] ++ ((73, 0), (50, 0)) :: growR 51 73 ([] : LLs).length A2.length, wkOk_grow (next := 60) (A := []) (A2 := A2) (by simp [wkOk]) (by decide) (by decide) (by decide) (by decide) (by simp) (by simp) (by simp), ?_, ?_⟩
                      · simp [wkEnv, lk, renV, renAt, renTo, wy]
                      · simp only [wkMem, P4, List.map_cons, List.map_nil, renBlk, renSegs, renSg, hc0, hE0, ioA, ioB]
                        rw [wk_grow (A := []) (A2 := A2) (k := n + A2.length) (cs := cs) (by decide) (by decide) (by decide) (by simp) (by simp) (by simp only [Mem.get]; rw [if_neg (by decide), assoc_rbag_lt (by decide)]; simp [assoc, outs_nil]; try omega) (fun σ hσ => (hE.ren σ fun k _ _ => hσ k).1) (fun j hj => absurd hj (by simp)) (fun j hj => by
                          simp only [Mem.get]
                          rw [if_neg (by decide), assoc_rbag_in hj])]
                        simp [wkLoc, Mem.get, assoc, assoc_rbag_ne, renBlk, renSegs, renSg, renAt, renCaps, renTo, mmH, outs_nil]; try omega
              · have hyM : y = M := by omega
                have hst := hA.symm
                rw [hyM] at hst
                simp only [absE, absL, absF, reduceCtorEq, ↓reduceIte, Nat.reduceEqDiff, Nat.reduceAdd, Nat.reduceLT, Nat.reduceMul, Nat.reduceSub, Nat.reduceLeDiff, Int.reduceLT, Int.reduceLE, Int.reduceEq, Option.isSome_some, implies_true, false_implies, Prod.mk.injEq, ne_eq, not_false_eq_true, not_true_eq_false, ge_iff_le, gt_iff_lt, Int.toNat_natCast, Int.reduceToNat, Int.cast_ofNat_Int, Int.natCast_nonneg, h, P4, ioA, ioB, mmH, Try.results71]
                exact ⟨[], by simp, by simp, by rw [hst]; exact ⟨by simp [renV]; exact decide_eq_true hn, .inl ⟨rfl, by simp [P4, renBlk, renSegs, renSg, renAt, renCaps, renFin, hE1, hc1], by simp⟩⟩⟩
            · skip
              by_cases h : (y : Int) < M
              · have wy := wrap_i64s (show y < 2 ^ 62 by omega)
                have hyM : y < M := by omega
                have b2 : (bytesTo M).getD (0 + y * 1) 0 = (y : Int) := by rw [Nat.zero_add, Nat.mul_one]; exact bytesTo_get (by omega)
                have v2 : 0 + y * 1 < M := by omega
                have hP := puth_ok N M t s f x y ht hs st ss hf hxN hyM
                simp only [absE, absL, absF, reduceCtorEq, ↓reduceIte, Nat.reduceEqDiff, Nat.reduceAdd, Nat.reduceLT, Nat.reduceMul, Nat.reduceSub, Nat.reduceLeDiff, Int.reduceLT, Int.reduceLE, Int.reduceEq, Option.isSome_some, implies_true, false_implies, Prod.mk.injEq, ne_eq, not_false_eq_true, not_true_eq_false, ge_iff_le, gt_iff_lt, Int.toNat_natCast, Int.reduceToNat, Int.cast_ofNat_Int, Int.natCast_nonneg, h, b2, v2, P4, ioA, ioB, mmH]
                refine CallsVia.args [(65, 0)] hP (by simp) (by simp [Mem.get, assoc]) rfl rfl ?_
                rintro _ _ _ ⟨b, g, ⟨hg1, hg2⟩, rfl, rfl, rfl⟩
                cases b
                · have hX := lexp_none (hg2 rfl)
                  rw [hX] at step
                  simp only at step
                  simp only [absE, absL, absF, reduceCtorEq, ↓reduceIte, Nat.reduceEqDiff, Nat.reduceAdd, Nat.reduceLT, Nat.reduceMul, Nat.reduceSub, Nat.reduceLeDiff, Int.reduceLT, Int.reduceLE, Int.reduceEq, Option.isSome_some, implies_true, false_implies, Prod.mk.injEq, ne_eq, not_false_eq_true, not_true_eq_false, ge_iff_le, gt_iff_lt, Int.toNat_natCast, Int.reduceToNat, Int.cast_ofNat_Int, Int.natCast_nonneg]
                  refine LoopNext.intro (y + 1, true, A) ⟨by simp only; omega, by simp only [step], by simp, hne, hln⟩ (by simp only; omega) ⟨[((1, 0), (1, 0)), ((40, 0), (40, 0))] ++ ((50, 0), (50, 0)) :: growR 51 73 A.length ([] : LLs).length, wkOk_grow (next := 60) (A := A) (A2 := []) (by simp [wkOk]) (by decide) (by decide) (by decide) (by decide) (by simp) (by simp) (by simp), ?_, ?_⟩
                  · simp [wkEnv, lk, renV, renAt, renTo, wy]
                  · simp only [wkMem, P4, List.map_cons, List.map_nil, renBlk, renSegs, renSg, hc0, hE0, ioA, ioB]
                    rw [wk_grow (A := A) (A2 := []) (k := n + A.length) (cs := cs) (by decide) (by decide) (by decide) (by simp) (by simp) (by simp only [Mem.get, assoc]; simp [outs_nil, assoc_rbag_ne, assoc]) (fun σ hσ => (hE.ren σ fun k _ _ => hσ k).1) (fun j hj => by simp only [Mem.get, assoc]; simp; have q := assoc_rbag_in' (a := 51) (k := 0) (i := j) (LL := A) hj; rwa [Nat.zero_add] at q) (fun j hj => absurd hj (by simp))]
                    simp [wkLoc, Mem.get, assoc, assoc_rbag_ne, renBlk, renSegs, renSg, renAt, renCaps, renTo, mmH, outs_nil]
                · have hLE := hg1 rfl
                  have hX := lexp_some hLE
                  have hgood := hLE.good
                  have hcg : N < cntL g N + d := by have := le_cnth hM hxN hyM hfx hLE; omega
                  rw [hX] at step
                  have hX2 := step
                  simp only [List.length_nil, Nat.add_zero] at hX2
                  have hS := ih g (n + A.length) (cs ++ outs 0 (5 + E.length) A) (E ++ inn A) hgood hcg hln (hE.grow A)
                  generalize hsm N M t s leM d g (n + A.length) = A2 at hS hX2
                  simp only [absE, absL, absF, reduceCtorEq, ↓reduceIte, Nat.reduceEqDiff, Nat.reduceAdd, Nat.reduceLT, Nat.reduceMul, Nat.reduceSub, Nat.reduceLeDiff, Int.reduceLT, Int.reduceLE, Int.reduceEq, Option.isSome_some, implies_true, false_implies, Prod.mk.injEq, ne_eq, not_false_eq_true, not_true_eq_false, ge_iff_le, gt_iff_lt, Int.toNat_natCast, Int.reduceToNat, Int.cast_ofNat_Int, Int.natCast_nonneg]
                  refine CallsVia.hsearch (N := N) (M := M) (t := t) (s := s) (n := n) (cs := cs) (E := E) (A := A) (O := 50) (B := 51) (nid := 73) (by decide) (by decide) (by decide) (by decide) (by simp [assoc]) (fun j hj => by
                      simp only [assoc]
                      simp
                      have q := assoc_rbag_in' (a := 51) (k := 0) (i := j) (LL := A) hj
                      rwa [Nat.zero_add] at q) hE hS (fun σ hσ => by simp [renVs, renV, renAt, renSegs, renSg, hσ]) (fun h2 ups rd hu => ?_) (fun hnn ups rd hu => ?_)
                  · simp only [P4] at hu
                    have hl2 : leM (n + A.length) = true := decide_eq_true hln
                    simp only [absE, absL, absF, reduceCtorEq, ↓reduceIte, Nat.reduceEqDiff, Nat.reduceAdd, Nat.reduceLT, Nat.reduceMul, Nat.reduceSub, Nat.reduceLeDiff, Int.reduceLT, Int.reduceLE, Int.reduceEq, Option.isSome_some, implies_true, false_implies, Prod.mk.injEq, ne_eq, not_false_eq_true, not_true_eq_false, ge_iff_le, gt_iff_lt, Int.toNat_natCast, Int.reduceToNat, Int.cast_ofNat_Int, Int.natCast_nonneg, hu, hl2]
                    refine LoopNext.intro (y + 1, true, A) ⟨by simp only; omega, by simp only [hX2, h2, List.append_nil], by simp, hne, hln⟩ (by simp only; omega) ⟨[((1, 0), (1, 0)), ((40, 0), (40, 0))] ++ ((50, 0), (50, 0)) :: growR 51 73 A.length ([] : LLs).length, wkOk_grow (next := 60) (A := A) (A2 := []) (by simp [wkOk]) (by decide) (by decide) (by decide) (by decide) (by simp) (by simp) (by simp), ?_, ?_⟩
                    · simp [wkEnv, lk, renV, renAt, renTo, wy]
                    · simp only [wkMem, P4, List.map_cons, List.map_nil, renBlk, renSegs, renSg, hc0, hE0, ioA, ioB]
                      rw [wk_grow (A := A) (A2 := []) (k := n + A.length) (cs := cs) (by decide) (by decide) (by decide) (by simp) (by simp) (by simp only [Mem.get]; rw [if_neg (by decide), assoc_rbag_ne (by decide)]; simp [assoc, outs_nil]) (fun σ hσ => (hE.ren σ fun k _ _ => hσ k).1) (fun j hj => by simp only [Mem.get]; rw [if_neg (by decide), assoc_rbag_in hj]) (fun j hj => absurd hj (by simp))]
                      simp [wkLoc, Mem.get, assoc, assoc_rbag_ne, renBlk, renSegs, renSg, renAt, renCaps, renTo, mmH, outs_nil]
                  · simp only [P4] at hu
                    cases hbb : leM (n + A.length + A2.length)
                    · have hst := hmIn_stop (N := N) (M := M) (t := t) (s := s) (lim := leM) (rec := hsm N M t s leM d) (f := f) (x := x) (n := n) (y := y + 1) (by rw [hX2, show n + (A ++ A2 : LLs).length = n + A.length + A2.length by rw [List.length_append]; omega]; exact hbb) (z := M) (by omega)
                      rw [hX2] at hst
                      simp only [absE, absL, absF, reduceCtorEq, ↓reduceIte, Nat.reduceEqDiff, Nat.reduceAdd, Nat.reduceLT, Nat.reduceMul, Nat.reduceSub, Nat.reduceLeDiff, Int.reduceLT, Int.reduceLE, Int.reduceEq, Option.isSome_some, implies_true, false_implies, Prod.mk.injEq, ne_eq, not_false_eq_true, not_true_eq_false, ge_iff_le, gt_iff_lt, Int.toNat_natCast, Int.reduceToNat, Int.cast_ofNat_Int, Int.natCast_nonneg, hu, hbb, Try.results71]
                      exact ⟨(73, 0) :: (srcs 51 0 (A : LLs).length ++ srcs 73 1 A2.length), keep2_nodup (by decide), keep2_keep (by decide) (by decide), by rw [hst]; exact ⟨by simp only [renV]; rw [show n + (A ++ A2 : LLs).length = n + A.length + A2.length by rw [List.length_append]; omega, hbb], .inr ⟨by simp [hnn], by simp [P4, renBlk, renSegs, renSg, renAt, renCaps, renFin, idx, hE1]; try omega, hfin2 (t := 73) (B := 51) (A := A) (A2 := A2) (cs := cs) (by decide) (by decide) (by decide) (by simp only [Mem.get]; rw [if_neg (by decide), assoc_rbag_lt (by decide)]; simp [assoc, outs_nil]; try omega) (fun j hj => by simp only [Mem.get]; rw [if_neg (by decide), assoc_rbag_ne (by decide), assoc, if_neg (by simp), assoc_rbag_in hj]) (fun j hj => by
                        simp only [Mem.get]
                        rw [if_neg (by decide), assoc_rbag_in hj]) hc1⟩⟩⟩
                    · have hle : n + A.length + A2.length ≤ 2000 := of_decide_eq_true hbb
                      simp only [absE, absL, absF, reduceCtorEq, ↓reduceIte, Nat.reduceEqDiff, Nat.reduceAdd, Nat.reduceLT, Nat.reduceMul, Nat.reduceSub, Nat.reduceLeDiff, Int.reduceLT, Int.reduceLE, Int.reduceEq, Option.isSome_some, implies_true, false_implies, Prod.mk.injEq, ne_eq, not_false_eq_true, not_true_eq_false, ge_iff_le, gt_iff_lt, Int.toNat_natCast, Int.reduceToNat, Int.cast_ofNat_Int, Int.natCast_nonneg, hu, hbb]
                      refine LoopNext.intro (y + 1, true, A ++ A2) ⟨by simp only; omega, by simp only [hX2], by simp, by simp [hnn], by simp only [List.length_append, List.length_nil]; omega⟩ (by simp only; omega) ⟨[((1, 0), (1, 0)), ((40, 0), (40, 0))] ++ ((73, 0), (50, 0)) :: growR 51 73 (A : LLs).length A2.length, wkOk_grow (next := 60) (A := A) (A2 := A2) (by simp [wkOk]) (by decide) (by decide) (by decide) (by decide) (by simp) (by simp) (by simp), ?_, ?_⟩
                      · simp [wkEnv, lk, renV, renAt, renTo, wy]
                      · simp only [wkMem, P4, List.map_cons, List.map_nil, renBlk, renSegs, renSg, hc0, hE0, ioA, ioB]
                        rw [wk_grow (A := A) (A2 := A2) (k := n + A.length + A2.length) (cs := cs) (by decide) (by decide) (by decide) (by simp) (by simp) (by simp only [Mem.get]; rw [if_neg (by decide), assoc_rbag_lt (by decide)]; simp [assoc, outs_nil]; try omega) (fun σ hσ => (hE.ren σ fun k _ _ => hσ k).1) (fun j hj => by simp only [Mem.get]; rw [if_neg (by decide), assoc_rbag_ne (by decide), assoc, if_neg (by simp), assoc_rbag_in hj]) (fun j hj => by
                          simp only [Mem.get]
                          rw [if_neg (by decide), assoc_rbag_in hj])]
                        simp [wkLoc, Mem.get, assoc, assoc_rbag_ne, renBlk, renSegs, renSg, renAt, renCaps, renTo, mmH, outs_nil]; try omega
              · have hyM : y = M := by omega
                have hst := hA.symm
                rw [hyM] at hst
                simp only [absE, absL, absF, reduceCtorEq, ↓reduceIte, Nat.reduceEqDiff, Nat.reduceAdd, Nat.reduceLT, Nat.reduceMul, Nat.reduceSub, Nat.reduceLeDiff, Int.reduceLT, Int.reduceLE, Int.reduceEq, Option.isSome_some, implies_true, false_implies, Prod.mk.injEq, ne_eq, not_false_eq_true, not_true_eq_false, ge_iff_le, gt_iff_lt, Int.toNat_natCast, Int.reduceToNat, Int.cast_ofNat_Int, Int.natCast_nonneg, h, P4, ioA, ioB, mmH, Try.results71]
                exact ⟨(50, 0) :: srcs 51 0 A.length, row_nodup (.inl (by decide)), row_keep (by decide) (by decide), by rw [hst]; exact ⟨by simp [renV, hlb], .inr ⟨hne rfl, by simp [P4, renBlk, renSegs, renSg, renAt, renCaps, renFin, idx, hE1], hfin (p := (50, 0)) (B := 51) (A := A) (cs := cs) (by decide) (by decide) (by simp [Mem.get, assoc]) (fun j hj => by simp only [Mem.get, assoc]; simp; have q := assoc_rbag_in' (a := 51) (k := 0) (i := j) (LL := A) hj; rwa [Nat.zero_add] at q) hc1⟩⟩⟩
        · obtain rfl : x = N := by omega
          have e1 : hsm x M t s leM (d + 1) f n = [rowH x f] := by rw [hsm, if_neg (by omega)]
          have h : ¬ (x : Int) < x := by omega
          rw [e1]
          simp only [absE, absL, absF, reduceCtorEq, ↓reduceIte, Nat.reduceEqDiff, Nat.reduceAdd, Nat.reduceLT, Nat.reduceMul, Nat.reduceSub, Nat.reduceLeDiff, Int.reduceLT, Int.reduceLE, Int.reduceEq, Option.isSome_some, implies_true, false_implies, Prod.mk.injEq, ne_eq, not_false_eq_true, not_true_eq_false, ge_iff_le, gt_iff_lt, Int.toNat_natCast, Int.reduceToNat, Int.cast_ofNat_Int, Int.natCast_nonneg, h, P4]
          refine CallsVia.none (elements_ok x t hN) ?_
          rintro _ _ _ ⟨rfl, rfl, rfl⟩
          simp only [absE, absL, absF, reduceCtorEq, ↓reduceIte, Nat.reduceEqDiff, Nat.reduceAdd, Nat.reduceLT, Nat.reduceMul, Nat.reduceSub, Nat.reduceLeDiff, Int.reduceLT, Int.reduceLE, Int.reduceEq, Option.isSome_some, implies_true, false_implies, Prod.mk.injEq, ne_eq, not_false_eq_true, not_true_eq_false, ge_iff_le, gt_iff_lt, Int.toNat_natCast, Int.reduceToNat, Int.cast_ofNat_Int, Int.natCast_nonneg]
          refine awpLoop.intro (fun i : Nat => [(1, .ref (.ptr 0 0 0 0)), (2, .ref (.ptr 0 1 0 0)), (3, .ref (.ptr 0 2 0 0)), (4, .ref (.ptr 0 3 0 0)), (5, .ref (.ptr 1 0 0 0)), (6, .b false), (12, .ref (.sl 31 0 0 0 i 1)), (48, .ref (.sl 34 0 0 0 x 1)), (49, .i .i64 x), (50, .i .i64 i)]) (fun i => ⟨P4 x M t s (.sl 0 4 0 0 n 1) (.lv true [(0, .cells n cs)]) E, [((1, 0), .lv true (sdS x t M s f)), ((31, 0), .lv true ([(0, .ints .i64 i (rowH i f))])), ((34, 0), .lv true ([(0, .ints .u8 x (bytesTo x))]))], 60⟩) (fun i => i ≤ x) (fun i => x - i) 0 (by omega) ⟨[((1,0),(1,0)), ((31,0),(31,0)), ((34,0),(34,0))], rfl, ?_, ?_⟩ ?_
          · simp [wkEnv, lk, renV, renAt, renTo]
          · simp only [wkMem, P4, List.map_cons, List.map_nil, renBlk, renSegs, renSg, hc0, hE0]
            simp [wkLoc, Mem.get, assoc, renBlk, renSegs, renSg, renAt, renCaps, renTo, rowH]
          · intro i hi
            by_cases h' : (i : Int) < x
            · have wi := wrap_i64s (show i < 2 ^ 62 by omega)
              have hix : i < x := by omega
              have hv : pl f i < M := by
                rcases hf.pm.val i hix with v | v
                · exact v
                · exact absurd v (hbe i (by omega))
              have b2 : (bytesTo x).getD (0 + i * 1) 0 = (i : Int) := by rw [Nat.zero_add, Nat.mul_one]; exact bytesTo_get (by omega)
              have v2 : 0 + i * 1 < x := by omega
              have i10 : (i : Int) < 10 := by omega
              have i11 : 0 + i * 1 < 10 := by omega
              have k2 : f.getD (0 + i * 1) 0 = ((pl f i : Nat) : Int) := by rw [Nat.zero_add, Nat.mul_one]; exact hf.pm.by_.place i
              have w8 := wrap_i64n (show pl f i < 2 ^ 62 by omega)
              have m1 : i * 1 = i := Nat.mul_one i
              rw [Nat.mul_one] at b2 v2 i11 k2
              simp only [absE, absL, absF, reduceCtorEq, ↓reduceIte, Nat.reduceEqDiff, Nat.reduceAdd, Nat.reduceLT, Nat.reduceMul, Nat.reduceSub, Nat.reduceLeDiff, Int.reduceLT, Int.reduceLE, Int.reduceEq, Option.isSome_some, implies_true, false_implies, Prod.mk.injEq, ne_eq, not_false_eq_true, not_true_eq_false, ge_iff_le, gt_iff_lt, Int.toNat_natCast, Int.reduceToNat, Int.cast_ofNat_Int, Int.natCast_nonneg, h', b2, v2, i10, i11, k2, w8, m1, P4]
              repeat first | refine And.intro (by decide +kernel) ?_ | refine And.intro (by omega) ?_
              refine LoopNext.intro (i + 1) (by omega) (by omega) ⟨[((1,0),(1,0)), ((71,0),(31,0)), ((34,0),(34,0))], rfl, ?_, ?_⟩
              · simp [wkEnv, lk, renV, renAt, renTo, wi]
              · simp only [wkMem, P4, List.map_cons, List.map_nil, renBlk, renSegs, renSg, hc0, hE0]
                rw [rowH_next]
                simp [wkLoc, Mem.get, assoc, renBlk, renSegs, renSg, renAt, renCaps, renTo]
            · obtain rfl : i = x := by omega
              have n1 : n * 1 = n := Nat.mul_one n
              have hle : decide (((n + 1 : Nat) : Int) ≤ 2000) = leM (n + 1) := decide_eq_decide.2 (by omega)
              simp only [absE, absL, absF, reduceCtorEq, ↓reduceIte, Nat.reduceEqDiff, Nat.reduceAdd, Nat.reduceLT, Nat.reduceMul, Nat.reduceSub, Nat.reduceLeDiff, Int.reduceLT, Int.reduceLE, Int.reduceEq, Option.isSome_some, implies_true, false_implies, Prod.mk.injEq, ne_eq, not_false_eq_true, not_true_eq_false, ge_iff_le, gt_iff_lt, Int.toNat_natCast, Int.reduceToNat, Int.cast_ofNat_Int, Int.natCast_nonneg, h', P4, n1, hle, Try.results71]
              repeat first | refine And.intro (by decide +kernel) ?_ | refine And.intro (by omega) ?_
              exact ⟨[(64, 0), (31, 0)], by simp, by simp, by simp [renV], .inr ⟨by simp, by simp [P4, renBlk, renSegs, renSg, renAt, renCaps, renFin, idx, hE1], by simp [Mem.get, assoc, renBlk, renSegs, renSg, hc1, renAt, renFin, idx, outs, inn, at_, ib, rowH_len]⟩⟩

end Go.Proofs.Ytgblnnodoabdeaa

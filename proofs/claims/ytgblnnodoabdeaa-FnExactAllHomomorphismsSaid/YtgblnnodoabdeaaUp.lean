/-
Contracts of functions of the given program, by the abstract walk.
-/
import Derived.Test.YtgblnnodoabdeaaAbsY
import Derived.Test.YtgblnnodoabdeaaUo
namespace Go.Proofs.Ytgblnnodoabdeaa
open Go Go.Abs
set_option linter.unusedVariables false
set_option linter.unusedSectionVars false
set_option linter.unusedSimpArgs false
set_option maxRecDepth 100000
/-! isomorphisms: the program's search -/
theorem finL_copy {N : Nat} {f : List Int} (hN : N ≤ 10) (h1 : 1 ≤ N) (hf : Bytes 10 f) : spl (List.replicate 10 0) 0 (f.take N) = finL N f := by
  have e : spl (List.replicate 10 (0 : Int)) 0 (f.take N) = f.take N ++ (List.replicate 10 0).drop N := by
    have hl : (f.take N).length = N := by rw [List.length_take, hf.len]; omega
    rw [spl_eq_int (by rw [hl]; simp; omega)]
    simp [hl]
  rw [e]
  refine ext_getD (by simp [finL, mapL_len, hf.len]; omega) fun i hi => ?_
  unfold finL
  rw [mapL_get hN]
  have hl : (f.take N).length = N := by rw [List.length_take, hf.len]; omega
  by_cases h : i < N
  · rw [if_pos h, List.getD_eq_getElem?_getD, List.getElem?_append_left (by omega), List.getElem?_take, if_pos h, ← List.getD_eq_getElem?_getD, hf.place]
  · rw [if_neg h, List.getD_eq_getElem?_getD, List.getElem?_append_right (by omega), List.getElem?_drop, ← List.getD_eq_getElem?_getD]
    exact getD_rep0
theorem finL_ten {f : List Int} (hf : Bytes 10 f) : finL 10 f = f := by
  refine ext_getD (by simp [finL, mapL_len, hf.len]) fun i hi => ?_
  have hi : i < 10 := by simpa [finL, mapL_len] using hi
  unfold finL
  rw [mapL_get (Nat.le_refl 10), if_pos hi, hf.place]
theorem allIso1_ok (p : List Int) (L : List (List Int)) (hp : p.length = 10) (hL : L.length ≤ 2000000) :
    ACalls Try.prog 110 [.agg (plS p), .ref (.ptr 0 0 0 0)] [ceB (.sl 0 1 0 0 L.length 10), plB L]
      (fun v ms ns => v = .b false ∧ ms = [ceB (.sl 1 0 0 0 (L.length + 1) 10), .dead] ∧ ns = [plB (L ++ [p])]) := by
  unfold ceB plB
  refine acalls_of_body mix Try.func110 rfl fok110 (Nat.le_of_ble_eq_true rfl) ?_
  unfold abody
  simp only [absE, absL, absF, reduceCtorEq, ↓reduceIte, Nat.reduceEqDiff, Nat.reduceAdd, Nat.reduceLT, Nat.reduceMul, Nat.reduceSub, Nat.reduceLeDiff, Int.reduceLT, Int.reduceLE, Int.reduceEq, Option.isSome_some, implies_true, false_implies, Prod.mk.injEq, ne_eq, not_false_eq_true, not_true_eq_false, ge_iff_le, gt_iff_lt, Int.toNat_natCast, Int.reduceToNat, Int.cast_ofNat_Int, Int.natCast_nonneg, Try.f110, Try.results110]
  repeat refine And.intro (by omega) ?_
  exact ⟨[(6, 0)], by simp, by simp, by simp [renV, renAt, renFin, idx], by simp [renBlk, renSegs, renSg, renAt, renFin, idx], by simp [renBlk, renSegs, renSg, Mem.get, assoc, Nat.add_mul]⟩
def iArgs (N : Nat) (t : List Int) (out : Atom) (b : Blk) : List Blk :=
  [.lv true (sqS N t), ceB (.fn 113 [(0, 0, 0, 0), (0, 1, 0, 0), (0, 2, 0, 0)]), ceB (.fn 110 [(0, 3, 0, 0)]), ceB out, b]
def IRes (N : Nat) (t : List Int) (L L' : List (List Int)) (v : AV) (ms ns : List Blk) : Prop :=
  v = .b false ∧ ((L' = L ∧ ms = iArgs N t (.sl 0 4 0 0 L.length 10) (plB L) ∧ ns = []) ∨ (ms = iArgs N t (.sl 1 0 0 0 L'.length 10) .dead ∧ ns = [plB L']))
def iA : Bool → List (List Int) → Atom
  | false, L => .sl 0 4 0 0 L.length 10
  | true, L => .sl 50 0 0 0 L.length 10
def iB : Bool → List (List Int) → Blk
  | false, L => plB L
  | true, _ => .dead
theorem search_ok (N : Nat) (t s : List Int) (ht : Bytes 100 t) (hs : Bytes 100 s) (st : SqP N t) (ss : SqP N s) : ∀ d (f : List Int) (L : List (List Int)), PGood true N N t s f → N < cntL f N + d → L.length + 10 ^ (6 - cntL f N) ≤ 1000000 →
    ACalls Try.prog 113 [.agg (ldS N t N s f (frS N f)), .ref (.ptr 0 0 0 0), .ref (.ptr 0 1 0 0), .ref (.ptr 0 2 0 0)] (iArgs N t (.sl 0 4 0 0 L.length 10) (plB L))
      (fun v ms ns => IRes N t L (ism N t s noM d f L) v ms ns) := by
  have hN := st.le
  have hN1 := st.pos
  intro d
  induction d with
  | zero => intro f L _ h; have := cnt_le (f := f) (k := N); omega
  | succ d ih =>
    intro f L hf hd hB
    have hp1 : 1 ≤ 10 ^ (6 - cntL f N) := Nat.pow_pos (by decide)
    have hXle : fnd (pl f) 255 N ≤ N := fnd_le
    have hbe : ∀ i, i < fnd (pl f) 255 N → pl f i ≠ 255 := fun i hi => fnd_none hi
    unfold iArgs ceB plB
    refine acalls_of_body mix Try.func113 rfl fok113 (Nat.le_of_ble_eq_true rfl) ?_
    unfold abody
    simp only [absE, absL, absF, reduceCtorEq, ↓reduceIte, Nat.reduceEqDiff, Nat.reduceAdd, Nat.reduceLT, Nat.reduceMul, Nat.reduceSub, Nat.reduceLeDiff, Int.reduceLT, Int.reduceLE, Int.reduceEq, Option.isSome_some, implies_true, false_implies, Prod.mk.injEq, ne_eq, not_false_eq_true, not_true_eq_false, ge_iff_le, gt_iff_lt, Int.toNat_natCast, Int.reduceToNat, Int.cast_ofNat_Int, Int.natCast_nonneg, Try.f113]
    refine CallsVia.none (elements_ok N t hN) ?_
    rintro _ _ _ ⟨rfl, rfl, rfl⟩
    simp only [absE, absL, absF, reduceCtorEq, ↓reduceIte, Nat.reduceEqDiff, Nat.reduceAdd, Nat.reduceLT, Nat.reduceMul, Nat.reduceSub, Nat.reduceLeDiff, Int.reduceLT, Int.reduceLE, Int.reduceEq, Option.isSome_some, implies_true, false_implies, Prod.mk.injEq, ne_eq, not_false_eq_true, not_true_eq_false, ge_iff_le, gt_iff_lt, Int.toNat_natCast, Int.reduceToNat, Int.cast_ofNat_Int, Int.natCast_nonneg]
    refine awpLoop.intro (fun x : Nat => [(1, .ref (.ptr 0 0 0 0)), (2, .ref (.ptr 0 1 0 0)), (3, .ref (.ptr 0 2 0 0)), (4, .ref (.ptr 1 0 0 0)), (5, .b false), (13, .ref (.sl 4 0 0 0 N 1)), (14, .i .i64 N), (15, .i .i64 x)]) (fun x => ⟨iArgs N t (.sl 0 4 0 0 L.length 10) (plB L), [((1, 0), .lv true (ldS N t N s f (frS N f))), ((4, 0), .lv true ([(0, .ints .u8 N (bytesTo N))]))], 30⟩) (fun x => x ≤ fnd (pl f) 255 N) (fun x => fnd (pl f) 255 N - x) 0 (by omega) ⟨[((1,0),(1,0)), ((4,0),(4,0))], rfl, ?_, ?_⟩ ?_
    · simp [wkEnv, lk, renV, renAt, renTo]
    · simp [wkMem, wkLoc, Mem.get, assoc, iArgs, ceB, plB, renBlk, renSegs, renSg, renAt, renCaps, renTo]
    · intro x hxX
      have w := wrap_i64s (show x < 2 ^ 62 by omega)
      by_cases hlt : x < fnd (pl f) 255 N
      · have h : (x : Int) < N := by omega
        have b1 : (bytesTo N).getD (0 + x * 1) 0 = (x : Int) := by rw [Nat.zero_add, Nat.mul_one]; exact bytesTo_get (by omega)
        have v1 : 0 + x * 1 < N := by omega
        have x10 : (x : Int) < 10 := by omega
        have x11 : 0 + x * 1 < 10 := by omega
        have k1 : f.getD (0 + x * 1) 0 = ((pl f x : Nat) : Int) := by rw [Nat.zero_add, Nat.mul_one]; exact hf.pm.by_.place x
        have n1 : ¬ ((pl f x : Nat) : Int) = 255 := by have := hbe x hlt; omega
        simp only [absE, absL, absF, reduceCtorEq, ↓reduceIte, Nat.reduceEqDiff, Nat.reduceAdd, Nat.reduceLT, Nat.reduceMul, Nat.reduceSub, Nat.reduceLeDiff, Int.reduceLT, Int.reduceLE, Int.reduceEq, Option.isSome_some, implies_true, false_implies, Prod.mk.injEq, ne_eq, not_false_eq_true, not_true_eq_false, ge_iff_le, gt_iff_lt, Int.toNat_natCast, Int.reduceToNat, Int.cast_ofNat_Int, Int.natCast_nonneg, h, b1, v1, x10, x11, k1, n1, iArgs, ceB, plB]
        refine LoopNext.intro (x + 1) (by omega) (by omega) ⟨[((1,0),(1,0)), ((4,0),(4,0))], rfl, ?_, ?_⟩
        · simp [wkEnv, lk, renV, renAt, renTo, w]
        · simp [wkMem, wkLoc, Mem.get, assoc, iArgs, ceB, plB, renBlk, renSegs, renSg, renAt, renCaps, renTo]
      · obtain hX : fnd (pl f) 255 N = x := by omega
        by_cases hxN : x < N
        · have hfx : pl f x = 255 := by rw [← hX]; exact fnd_at (by omega)
          have e1 : ism N t s noM (d + 1) f L = ismIn N t s noM (ism N t s noM d) f x N L := by rw [ism, if_pos (by omega), hX]
          have hhalf := clo_half hN hN st ss hf hxN hfx
          have hB2 : ∀ y, y ≤ N → (ismIn N t s noM (ism N t s noM d) f x y L).length ≤ L.length + y * 10 ^ (5 - cntL f N) := fun y hy =>
            ismIn_noLen (N := N) (t := t) (s := s) (rec := ism N t s noM d) (f := f) (x := x) (B := 10 ^ (5 - cntL f N)) (fun y g L hy hg => by
              have hL := lexp_le hg
              have hc := le_cnt hN hxN hy hfx hL
              refine Nat.le_trans (ism_noLen hN st ss hL.good) (Nat.add_le_add_left (Nat.pow_le_pow_right (by decide) (by omega)) _)) hy
          have hp6 : 10 ^ (6 - cntL f N) = 10 ^ (5 - cntL f N) * 10 := by rw [show 6 - cntL f N = 5 - cntL f N + 1 by omega, Nat.pow_succ]
          rw [e1]
          have h : (x : Int) < N := by omega
          have b1 : (bytesTo N).getD (0 + x * 1) 0 = (x : Int) := by rw [Nat.zero_add, Nat.mul_one]; exact bytesTo_get (by omega)
          have v1 : 0 + x * 1 < N := by omega
          have x10 : (x : Int) < 10 := by omega
          have x11 : 0 + x * 1 < 10 := by omega
          have k1 : f.getD (0 + x * 1) 0 = 255 := by rw [Nat.zero_add, Nat.mul_one]; rw [hf.pm.by_.place x, hfx]; rfl
          simp only [absE, absL, absF, reduceCtorEq, ↓reduceIte, Nat.reduceEqDiff, Nat.reduceAdd, Nat.reduceLT, Nat.reduceMul, Nat.reduceSub, Nat.reduceLeDiff, Int.reduceLT, Int.reduceLE, Int.reduceEq, Option.isSome_some, implies_true, false_implies, Prod.mk.injEq, ne_eq, not_false_eq_true, not_true_eq_false, ge_iff_le, gt_iff_lt, Int.toNat_natCast, Int.reduceToNat, Int.cast_ofNat_Int, Int.natCast_nonneg, h, b1, v1, x10, x11, k1, iArgs, ceB, plB]
          refine CallsVia.none (elements_ok N t hN) ?_
          rintro _ _ _ ⟨rfl, rfl, rfl⟩
          simp only [absE, absL, absF, reduceCtorEq, ↓reduceIte, Nat.reduceEqDiff, Nat.reduceAdd, Nat.reduceLT, Nat.reduceMul, Nat.reduceSub, Nat.reduceLeDiff, Int.reduceLT, Int.reduceLE, Int.reduceEq, Option.isSome_some, implies_true, false_implies, Prod.mk.injEq, ne_eq, not_false_eq_true, not_true_eq_false, ge_iff_le, gt_iff_lt, Int.toNat_natCast, Int.reduceToNat, Int.cast_ofNat_Int, Int.natCast_nonneg]
          refine awpLoop.intro (fun S : Nat × Bool × List (List Int) => [(1, .ref (.ptr 0 0 0 0)), (2, .ref (.ptr 0 1 0 0)), (3, .ref (.ptr 0 2 0 0)), (4, .ref (.ptr 1 0 0 0)), (5, .b false), (7, .i .u8 x), (25, .ref (.sl 40 0 0 0 N 1)), (26, .i .i64 N), (27, .i .i64 S.1)]) (fun S => ⟨iArgs N t (iA S.2.1 S.2.2) (iB S.2.1 S.2.2), [((1, 0), .lv true (ldS N t N s f (frS N f))), ((40, 0), .lv true ([(0, .ints .u8 N (bytesTo N))]))] ++ mmL S.2.1 S.2.2, 60⟩)
            (fun S => S.1 ≤ N ∧ S.2.2 = ismIn N t s noM (ism N t s noM d) f x S.1 L ∧ (S.2.1 = false → S.2.2 = L)) (fun S => N - S.1) (0, false, L) ⟨by simp, rfl, fun _ => rfl⟩ ⟨[((1,0),(1,0)), ((40,0),(40,0))], rfl, ?_, ?_⟩ ?_
          · simp [wkEnv, lk, renV, renAt, renTo]
          · simp [wkMem, wkLoc, Mem.get, assoc, iArgs, ceB, plB, iA, iB, mmL, renBlk, renSegs, renSg, renAt, renCaps, renTo]
          · rintro ⟨y, c, L'⟩ ⟨hy, hL', hc'⟩
            simp only at hy hL' hc'
            have hln := hB2 y hy
            rw [← hL'] at hln
            have step : ismIn N t s noM (ism N t s noM d) f x (y + 1) L = (match lexp true N N t s f x y with | some g => ism N t s noM d g L' | none => L') := by rw [ismIn_no, ← hL']; rfl
            cases c
            · obtain rfl : L' = L := hc' rfl
              by_cases h : (y : Int) < N
              · have wy := wrap_i64s (show y < 2 ^ 62 by omega)
                have hyN : y < N := by omega
                have b2 : (bytesTo N).getD (0 + y * 1) 0 = (y : Int) := by rw [Nat.zero_add, Nat.mul_one]; exact bytesTo_get (by omega)
                have v2 : 0 + y * 1 < N := by omega
                have hP := put_ok N t s f x y ht hs st ss hf hxN hyN
                simp only [absE, absL, absF, reduceCtorEq, ↓reduceIte, Nat.reduceEqDiff, Nat.reduceAdd, Nat.reduceLT, Nat.reduceMul, Nat.reduceSub, Nat.reduceLeDiff, Int.reduceLT, Int.reduceLE, Int.reduceEq, Option.isSome_some, implies_true, false_implies, Prod.mk.injEq, ne_eq, not_false_eq_true, not_true_eq_false, ge_iff_le, gt_iff_lt, Int.toNat_natCast, Int.reduceToNat, Int.cast_ofNat_Int, Int.natCast_nonneg, h, b2, v2, iArgs, ceB, iA, iB, mmL, plB]
                refine CallsVia.args [(65, 0)] hP (by simp) (by simp [Mem.get, assoc]) rfl rfl ?_
                rintro _ _ _ ⟨b, g, ⟨hg1, hg2⟩, rfl, rfl, rfl⟩
                cases b
                · have hX := lexp_none (hg2 rfl)
                  simp only [absE, absL, absF, reduceCtorEq, ↓reduceIte, Nat.reduceEqDiff, Nat.reduceAdd, Nat.reduceLT, Nat.reduceMul, Nat.reduceSub, Nat.reduceLeDiff, Int.reduceLT, Int.reduceLE, Int.reduceEq, Option.isSome_some, implies_true, false_implies, Prod.mk.injEq, ne_eq, not_false_eq_true, not_true_eq_false, ge_iff_le, gt_iff_lt, Int.toNat_natCast, Int.reduceToNat, Int.cast_ofNat_Int, Int.natCast_nonneg]
                  refine LoopNext.intro (y + 1, false, L') ⟨by simp only; omega, by simp only [step, hX], fun _ => rfl⟩ (by simp only; omega) ⟨[((1,0),(1,0)), ((40,0),(40,0))], rfl, ?_, ?_⟩
                  · simp [wkEnv, lk, renV, renAt, renTo, wy]
                  · simp [wkMem, wkLoc, Mem.get, assoc, iArgs, ceB, plB, iA, iB, mmL, renBlk, renSegs, renSg, renAt, renCaps, renTo]
                · have hLE := hg1 rfl
                  have hX := lexp_some hLE
                  have hcl := le_cnt hN hxN hyN hfx hLE
                  have hpw : 10 ^ (6 - cntL g N) ≤ 10 ^ (5 - cntL f N) := Nat.pow_le_pow_right (by decide) (by omega)
                  have hyb : y * 10 ^ (5 - cntL f N) ≤ 9 * 10 ^ (5 - cntL f N) := Nat.mul_le_mul_right _ (by omega)
                  have hS := ih g L' hLE.good (by omega) (by first | omega | (rw [← hL'] at *; omega))
                  unfold iArgs ceB plB at hS
                  simp only [absE, absL, absF, reduceCtorEq, ↓reduceIte, Nat.reduceEqDiff, Nat.reduceAdd, Nat.reduceLT, Nat.reduceMul, Nat.reduceSub, Nat.reduceLeDiff, Int.reduceLT, Int.reduceLE, Int.reduceEq, Option.isSome_some, implies_true, false_implies, Prod.mk.injEq, ne_eq, not_false_eq_true, not_true_eq_false, ge_iff_le, gt_iff_lt, Int.toNat_natCast, Int.reduceToNat, Int.cast_ofNat_Int, Int.natCast_nonneg]
                  refine CallsVia.args [(0, 0), (0, 1), (0, 2), (0, 3), (0, 4)] hS (by simp) (by simp [Mem.get, assoc]) rfl rfl ?_
                  rintro _ _ _ ⟨rfl, (⟨hsame, rfl, rfl⟩ | ⟨rfl, rfl⟩)⟩
                  · simp only [absE, absL, absF, reduceCtorEq, ↓reduceIte, Nat.reduceEqDiff, Nat.reduceAdd, Nat.reduceLT, Nat.reduceMul, Nat.reduceSub, Nat.reduceLeDiff, Int.reduceLT, Int.reduceLE, Int.reduceEq, Option.isSome_some, implies_true, false_implies, Prod.mk.injEq, ne_eq, not_false_eq_true, not_true_eq_false, ge_iff_le, gt_iff_lt, Int.toNat_natCast, Int.reduceToNat, Int.cast_ofNat_Int, Int.natCast_nonneg, iArgs, ceB, plB]
                    refine LoopNext.intro (y + 1, false, L') ⟨by simp only; omega, by simp only [step, hX]; exact hsame.symm, fun _ => rfl⟩ (by simp only; omega) ⟨[((1,0),(1,0)), ((40,0),(40,0))], rfl, ?_, ?_⟩
                    · simp [wkEnv, lk, renV, renAt, renTo, wy]
                    · simp [wkMem, wkLoc, Mem.get, assoc, iArgs, ceB, plB, iA, iB, mmL, renBlk, renSegs, renSg, renAt, renCaps, renTo, renOut]
                  · simp only [absE, absL, absF, reduceCtorEq, ↓reduceIte, Nat.reduceEqDiff, Nat.reduceAdd, Nat.reduceLT, Nat.reduceMul, Nat.reduceSub, Nat.reduceLeDiff, Int.reduceLT, Int.reduceLE, Int.reduceEq, Option.isSome_some, implies_true, false_implies, Prod.mk.injEq, ne_eq, not_false_eq_true, not_true_eq_false, ge_iff_le, gt_iff_lt, Int.toNat_natCast, Int.reduceToNat, Int.cast_ofNat_Int, Int.natCast_nonneg, iArgs, ceB, plB]
                    refine LoopNext.intro (y + 1, true, ism N t s noM d g L') ⟨by simp only; omega, by simp only [step, hX], by simp⟩ (by simp only; omega) ⟨[((1,0),(1,0)), ((40,0),(40,0)), ((73,0),(50,0))], rfl, ?_, ?_⟩
                    · simp [wkEnv, lk, renV, renAt, renTo, wy]
                    · simp [wkMem, wkLoc, Mem.get, assoc, iArgs, ceB, plB, iA, iB, mmL, renBlk, renSegs, renSg, renAt, renCaps, renTo, renOut]
              · have hyN : y = N := by omega
                have hq := hL'.symm
                rw [hyN] at hq
                simp only [absE, absL, absF, reduceCtorEq, ↓reduceIte, Nat.reduceEqDiff, Nat.reduceAdd, Nat.reduceLT, Nat.reduceMul, Nat.reduceSub, Nat.reduceLeDiff, Int.reduceLT, Int.reduceLE, Int.reduceEq, Option.isSome_some, implies_true, false_implies, Prod.mk.injEq, ne_eq, not_false_eq_true, not_true_eq_false, ge_iff_le, gt_iff_lt, Int.toNat_natCast, Int.reduceToNat, Int.cast_ofNat_Int, Int.natCast_nonneg, h, iArgs, ceB, iA, iB, mmL, plB, Try.results113]
                exact ⟨[], by simp, by simp, by simp [renV], .inl ⟨hq, by simp [iArgs, ceB, plB, renBlk, renSegs, renSg, renAt, renCaps, renFin], by simp⟩⟩
            · skip
              by_cases h : (y : Int) < N
              · have wy := wrap_i64s (show y < 2 ^ 62 by omega)
                have hyN : y < N := by omega
                have b2 : (bytesTo N).getD (0 + y * 1) 0 = (y : Int) := by rw [Nat.zero_add, Nat.mul_one]; exact bytesTo_get (by omega)
                have v2 : 0 + y * 1 < N := by omega
                have hP := put_ok N t s f x y ht hs st ss hf hxN hyN
                simp only [absE, absL, absF, reduceCtorEq, ↓reduceIte, Nat.reduceEqDiff, Nat.reduceAdd, Nat.reduceLT, Nat.reduceMul, Nat.reduceSub, Nat.reduceLeDiff, Int.reduceLT, Int.reduceLE, Int.reduceEq, Option.isSome_some, implies_true, false_implies, Prod.mk.injEq, ne_eq, not_false_eq_true, not_true_eq_false, ge_iff_le, gt_iff_lt, Int.toNat_natCast, Int.reduceToNat, Int.cast_ofNat_Int, Int.natCast_nonneg, h, b2, v2, iArgs, ceB, iA, iB, mmL, plB]
                refine CallsVia.args [(65, 0)] hP (by simp) (by simp [Mem.get, assoc]) rfl rfl ?_
                rintro _ _ _ ⟨b, g, ⟨hg1, hg2⟩, rfl, rfl, rfl⟩
                cases b
                · have hX := lexp_none (hg2 rfl)
                  simp only [absE, absL, absF, reduceCtorEq, ↓reduceIte, Nat.reduceEqDiff, Nat.reduceAdd, Nat.reduceLT, Nat.reduceMul, Nat.reduceSub, Nat.reduceLeDiff, Int.reduceLT, Int.reduceLE, Int.reduceEq, Option.isSome_some, implies_true, false_implies, Prod.mk.injEq, ne_eq, not_false_eq_true, not_true_eq_false, ge_iff_le, gt_iff_lt, Int.toNat_natCast, Int.reduceToNat, Int.cast_ofNat_Int, Int.natCast_nonneg]
                  refine LoopNext.intro (y + 1, true, L') ⟨by simp only; omega, by simp only [step, hX], by simp⟩ (by simp only; omega) ⟨[((1,0),(1,0)), ((40,0),(40,0)), ((50,0),(50,0))], rfl, ?_, ?_⟩
                  · simp [wkEnv, lk, renV, renAt, renTo, wy]
                  · simp [wkMem, wkLoc, Mem.get, assoc, iArgs, ceB, plB, iA, iB, mmL, renBlk, renSegs, renSg, renAt, renCaps, renTo]
                · have hLE := hg1 rfl
                  have hX := lexp_some hLE
                  have hcl := le_cnt hN hxN hyN hfx hLE
                  have hpw : 10 ^ (6 - cntL g N) ≤ 10 ^ (5 - cntL f N) := Nat.pow_le_pow_right (by decide) (by omega)
                  have hyb : y * 10 ^ (5 - cntL f N) ≤ 9 * 10 ^ (5 - cntL f N) := Nat.mul_le_mul_right _ (by omega)
                  have hS := ih g L' hLE.good (by omega) (by first | omega | (rw [← hL'] at *; omega))
                  unfold iArgs ceB plB at hS
                  simp only [absE, absL, absF, reduceCtorEq, ↓reduceIte, Nat.reduceEqDiff, Nat.reduceAdd, Nat.reduceLT, Nat.reduceMul, Nat.reduceSub, Nat.reduceLeDiff, Int.reduceLT, Int.reduceLE, Int.reduceEq, Option.isSome_some, implies_true, false_implies, Prod.mk.injEq, ne_eq, not_false_eq_true, not_true_eq_false, ge_iff_le, gt_iff_lt, Int.toNat_natCast, Int.reduceToNat, Int.cast_ofNat_Int, Int.natCast_nonneg]
                  refine CallsVia.args [(0, 0), (0, 1), (0, 2), (0, 3), (50, 0)] hS (by simp) (by simp [Mem.get, assoc]) rfl rfl ?_
                  rintro _ _ _ ⟨rfl, (⟨hsame, rfl, rfl⟩ | ⟨rfl, rfl⟩)⟩
                  · simp only [absE, absL, absF, reduceCtorEq, ↓reduceIte, Nat.reduceEqDiff, Nat.reduceAdd, Nat.reduceLT, Nat.reduceMul, Nat.reduceSub, Nat.reduceLeDiff, Int.reduceLT, Int.reduceLE, Int.reduceEq, Option.isSome_some, implies_true, false_implies, Prod.mk.injEq, ne_eq, not_false_eq_true, not_true_eq_false, ge_iff_le, gt_iff_lt, Int.toNat_natCast, Int.reduceToNat, Int.cast_ofNat_Int, Int.natCast_nonneg, iArgs, ceB, plB]
                    refine LoopNext.intro (y + 1, true, L') ⟨by simp only; omega, by simp only [step, hX]; exact hsame.symm, by simp⟩ (by simp only; omega) ⟨[((1,0),(1,0)), ((40,0),(40,0)), ((50,0),(50,0))], rfl, ?_, ?_⟩
                    · simp [wkEnv, lk, renV, renAt, renTo, wy]
                    · simp [wkMem, wkLoc, Mem.get, assoc, iArgs, ceB, plB, iA, iB, mmL, renBlk, renSegs, renSg, renAt, renCaps, renTo, renOut]
                  · simp only [absE, absL, absF, reduceCtorEq, ↓reduceIte, Nat.reduceEqDiff, Nat.reduceAdd, Nat.reduceLT, Nat.reduceMul, Nat.reduceSub, Nat.reduceLeDiff, Int.reduceLT, Int.reduceLE, Int.reduceEq, Option.isSome_some, implies_true, false_implies, Prod.mk.injEq, ne_eq, not_false_eq_true, not_true_eq_false, ge_iff_le, gt_iff_lt, Int.toNat_natCast, Int.reduceToNat, Int.cast_ofNat_Int, Int.natCast_nonneg, iArgs, ceB, plB]
                    refine LoopNext.intro (y + 1, true, ism N t s noM d g L') ⟨by simp only; omega, by simp only [step, hX], by simp⟩ (by simp only; omega) ⟨[((1,0),(1,0)), ((40,0),(40,0)), ((73,0),(50,0))], rfl, ?_, ?_⟩
                    · simp [wkEnv, lk, renV, renAt, renTo, wy]
                    · simp [wkMem, wkLoc, Mem.get, assoc, iArgs, ceB, plB, iA, iB, mmL, renBlk, renSegs, renSg, renAt, renCaps, renTo, renOut]
              · have hyN : y = N := by omega
                have hq := hL'.symm
                rw [hyN] at hq
                simp only [absE, absL, absF, reduceCtorEq, ↓reduceIte, Nat.reduceEqDiff, Nat.reduceAdd, Nat.reduceLT, Nat.reduceMul, Nat.reduceSub, Nat.reduceLeDiff, Int.reduceLT, Int.reduceLE, Int.reduceEq, Option.isSome_some, implies_true, false_implies, Prod.mk.injEq, ne_eq, not_false_eq_true, not_true_eq_false, ge_iff_le, gt_iff_lt, Int.toNat_natCast, Int.reduceToNat, Int.cast_ofNat_Int, Int.natCast_nonneg, h, iArgs, ceB, iA, iB, mmL, plB, Try.results113]
                exact ⟨[(50, 0)], by simp, by simp, by simp [renV], .inr ⟨by rw [hq]; simp [iArgs, ceB, plB, renBlk, renSegs, renSg, renAt, renCaps, renFin, idx], by rw [hq]; simp [plB, Mem.get, assoc, renBlk, renSegs, renSg]⟩⟩
        · obtain rfl : x = N := by omega
          have e1 : ism x t s noM (d + 1) f L = L ++ [finL x f] := by rw [ism, if_neg (by omega)]
          have h : ¬ (x : Int) < x := by omega
          rw [e1]
          have hfl := finL_copy hN hN1 hf.pm.by_
          have hV := allIso1_ok (finL x f) L mapL_len (by omega)
          unfold ceB plB at hV
          have hmn : min 10 (x - 0) = x := by omega
          have hx10 : (x : Int) ≤ 10 := by omega
          have x00 : 0 < x := hN1
          have xle : 0 + x ≤ 10 := by omega
          by_cases h10 : x = 10
          · subst h10
            rw [finL_ten hf.pm.by_] at hV ⊢
            have m10 : min 10 10 = 10 := rfl
            simp only [absE, absL, absF, reduceCtorEq, ↓reduceIte, Nat.reduceEqDiff, Nat.reduceAdd, Nat.reduceLT, Nat.reduceMul, Nat.reduceSub, Nat.reduceLeDiff, Int.reduceLT, Int.reduceLE, Int.reduceEq, Option.isSome_some, implies_true, false_implies, Prod.mk.injEq, ne_eq, not_false_eq_true, not_true_eq_false, ge_iff_le, gt_iff_lt, Int.toNat_natCast, Int.reduceToNat, Int.cast_ofNat_Int, Int.natCast_nonneg, h, iArgs, ceB, plB, m10]
            repeat refine And.intro (by decide +kernel) ?_
            refine CallsVia.args [(0, 3), (0, 4)] hV (by simp) (by simp [Mem.get, assoc]) rfl rfl ?_
            rintro _ _ _ ⟨rfl, rfl, rfl⟩
            simp only [absE, absL, absF, reduceCtorEq, ↓reduceIte, Nat.reduceEqDiff, Nat.reduceAdd, Nat.reduceLT, Nat.reduceMul, Nat.reduceSub, Nat.reduceLeDiff, Int.reduceLT, Int.reduceLE, Int.reduceEq, Option.isSome_some, implies_true, false_implies, Prod.mk.injEq, ne_eq, not_false_eq_true, not_true_eq_false, ge_iff_le, gt_iff_lt, Int.toNat_natCast, Int.reduceToNat, Int.cast_ofNat_Int, Int.natCast_nonneg, Try.results113]
            exact ⟨[(42, 0)], by simp, by simp, by simp [renV], .inr ⟨by simp [iArgs, ceB, plB, renBlk, renSegs, renSg, renAt, renOut, renCaps, renFin, idx], by simp [plB, Mem.get, assoc, renBlk, renSegs, renSg]⟩⟩
          · have hfl' : spl (List.replicate 10 0) 0 ((f.drop 0).take x) = finL x f := hfl
            simp only [absE, absL, absF, reduceCtorEq, ↓reduceIte, Nat.reduceEqDiff, Nat.reduceAdd, Nat.reduceLT, Nat.reduceMul, Nat.reduceSub, Nat.reduceLeDiff, Int.reduceLT, Int.reduceLE, Int.reduceEq, Option.isSome_some, implies_true, false_implies, Prod.mk.injEq, ne_eq, not_false_eq_true, not_true_eq_false, ge_iff_le, gt_iff_lt, Int.toNat_natCast, Int.reduceToNat, Int.cast_ofNat_Int, Int.natCast_nonneg, h, iArgs, ceB, plB, hx10, hmn, x00, h10, xle, hfl']
            repeat refine And.intro (by decide +kernel) ?_
            refine CallsVia.args [(0, 3), (0, 4)] hV (by simp) (by simp [Mem.get, assoc]) rfl rfl ?_
            rintro _ _ _ ⟨rfl, rfl, rfl⟩
            simp only [absE, absL, absF, reduceCtorEq, ↓reduceIte, Nat.reduceEqDiff, Nat.reduceAdd, Nat.reduceLT, Nat.reduceMul, Nat.reduceSub, Nat.reduceLeDiff, Int.reduceLT, Int.reduceLE, Int.reduceEq, Option.isSome_some, implies_true, false_implies, Prod.mk.injEq, ne_eq, not_false_eq_true, not_true_eq_false, ge_iff_le, gt_iff_lt, Int.toNat_natCast, Int.reduceToNat, Int.cast_ofNat_Int, Int.natCast_nonneg, Try.results113]
            exact ⟨[(42, 0)], by simp, by simp, by simp [renV], .inr ⟨by simp [iArgs, ceB, plB, renBlk, renSegs, renSg, renAt, renOut, renCaps, renFin, idx], by simp [plB, Mem.get, assoc, renBlk, renSegs, renSg]⟩⟩

end Go.Proofs.Ytgblnnodoabdeaa

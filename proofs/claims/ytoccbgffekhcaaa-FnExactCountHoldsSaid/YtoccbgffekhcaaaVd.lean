/-
Contracts of functions of the given program, by the abstract walk.
-/
import Derived.Test.YtoccbgffekhcaaaAbsY
import Derived.Test.YtoccbgffekhcaaaVc
import Derived.Test.YtoccbgffekhcaaaPc
import Derived.Test.YtoccbgffekhcaaaJj
namespace Go.Proofs.Ytoccbgffekhcaaa
open Go Go.Abs
set_option linter.unusedVariables false
set_option linter.unusedSectionVars false
set_option linter.unusedSimpArgs false
set_option maxRecDepth 100000
/-! identities in the laws -/
def idA (A B : Atom) : AV := .agg [(0, .cells 1 [A]), (1, .cells 1 [B])]
def SlAtB (j : Nat) (A : Atom) (xs : List Int) (ms : List Blk) : Prop := (A = .nils ∧ xs = []) ∨ (A = .sl0 ∧ xs = []) ∨ (A = .sl 0 j 0 0 xs.length 1 ∧ ms.getD j .dead = .lv false [(0, .ints .u8 xs.length xs)])
theorem szBytes_nil (left : Int) (h0 : 0 ≤ left) (h1 : left ≤ 2 ^ 20) : ACalls Try.prog 91 [.ref .nils, .i .i64 left] [] (fun v ms ns => v = .i .i64 (szR left 0) ∧ ms = [] ∧ ns = []) := by
  have w : IntKind.i64.wrap left = left := wrap_i64 (by omega) (by omega)
  have w' : IntKind.i64.wrap (left - 0) = left := by rw [Int.sub_zero]; exact w
  have h : ¬ left < 0 := by omega
  have e : szR left 0 = left := by unfold szR; rw [if_neg (by omega)]; omega
  refine acalls_of_body mix Try.func91 rfl fok91 (Nat.le_of_ble_eq_true rfl) ?_
  unfold abody
  simp only [absE, absL, absF, reduceCtorEq, ↓reduceIte, Nat.reduceEqDiff, Nat.reduceAdd, Nat.reduceLT, Nat.reduceMul, Nat.reduceSub, Nat.reduceLeDiff, Int.reduceLT, Int.reduceLE, Int.reduceEq, Option.isSome_some, implies_true, false_implies, Prod.mk.injEq, ne_eq, not_false_eq_true, not_true_eq_false, ge_iff_le, gt_iff_lt, Int.toNat_natCast, Int.reduceToNat, Int.cast_ofNat_Int, Int.natCast_nonneg, w, w', h, Try.f91, Try.results91]
  exact ⟨[], by simp, by simp, by simp [renV, renVs, renSegs, renSg, e]⟩
theorem szBytes_sl0 (left : Int) (h0 : 0 ≤ left) (h1 : left ≤ 2 ^ 20) : ACalls Try.prog 91 [.ref .sl0, .i .i64 left] [] (fun v ms ns => v = .i .i64 (szR left 0) ∧ ms = [] ∧ ns = []) := by
  have w : IntKind.i64.wrap left = left := wrap_i64 (by omega) (by omega)
  have w' : IntKind.i64.wrap (left - 0) = left := by rw [Int.sub_zero]; exact w
  have h : ¬ left < 0 := by omega
  have e : szR left 0 = left := by unfold szR; rw [if_neg (by omega)]; omega
  refine acalls_of_body mix Try.func91 rfl fok91 (Nat.le_of_ble_eq_true rfl) ?_
  unfold abody
  simp only [absE, absL, absF, reduceCtorEq, ↓reduceIte, Nat.reduceEqDiff, Nat.reduceAdd, Nat.reduceLT, Nat.reduceMul, Nat.reduceSub, Nat.reduceLeDiff, Int.reduceLT, Int.reduceLE, Int.reduceEq, Option.isSome_some, implies_true, false_implies, Prod.mk.injEq, ne_eq, not_false_eq_true, not_true_eq_false, ge_iff_le, gt_iff_lt, Int.toNat_natCast, Int.reduceToNat, Int.cast_ofNat_Int, Int.natCast_nonneg, w, w', h, Try.f91, Try.results91]
  exact ⟨[], by simp, by simp, by simp [renV, renVs, renSegs, renSg, e]⟩
theorem szBytes_ok (k : Nat) (xs : List Int) (left : Int) (hk : k ≤ maxLen) (h0 : 0 ≤ left) (h1 : left ≤ 2 ^ 20) : ACalls Try.prog 91 [.ref (.sl 0 0 0 0 k 1), .i .i64 left] [.lv false [(0, .ints .u8 k xs)]] (fun v ms ns => v = .i .i64 (szR left k) ∧ ms = [.lv false [(0, .ints .u8 k xs)]] ∧ ns = []) := by
  have hm := maxLen_le
  have w : IntKind.i64.wrap (left - k) = left - k := wrap_i64 (by omega) (by omega)
  refine acalls_of_body mix Try.func91 rfl fok91 (Nat.le_of_ble_eq_true rfl) ?_
  unfold abody
  by_cases h : left - k < 0
  · have e : szR left k = -1 := by rw [szR, if_pos h]
    simp only [absE, absL, absF, reduceCtorEq, ↓reduceIte, Nat.reduceEqDiff, Nat.reduceAdd, Nat.reduceLT, Nat.reduceMul, Nat.reduceSub, Nat.reduceLeDiff, Int.reduceLT, Int.reduceLE, Int.reduceEq, Option.isSome_some, implies_true, false_implies, Prod.mk.injEq, ne_eq, not_false_eq_true, not_true_eq_false, ge_iff_le, gt_iff_lt, Int.toNat_natCast, Int.reduceToNat, Int.cast_ofNat_Int, Int.natCast_nonneg, w, h, Try.f91, Try.results91]
    exact ⟨[], by simp, by simp, by simp [renV, renBlk, renSegs, renSg, e]⟩
  · have e : szR left k = left - k := by rw [szR, if_neg h]
    simp only [absE, absL, absF, reduceCtorEq, ↓reduceIte, Nat.reduceEqDiff, Nat.reduceAdd, Nat.reduceLT, Nat.reduceMul, Nat.reduceSub, Nat.reduceLeDiff, Int.reduceLT, Int.reduceLE, Int.reduceEq, Option.isSome_some, implies_true, false_implies, Prod.mk.injEq, ne_eq, not_false_eq_true, not_true_eq_false, ge_iff_le, gt_iff_lt, Int.toNat_natCast, Int.reduceToNat, Int.cast_ofNat_Int, Int.natCast_nonneg, w, h, Try.f91, Try.results91]
    exact ⟨[], by simp, by simp, by simp [renV, renBlk, renSegs, renSg, e]⟩
theorem szBytes_any {j : Nat} {A : Atom} {xs : List Int} {ms : List Blk} {loc : Loc} {n : Nat} (hA : SlAtB j A xs ms) (hx : xs.length ≤ maxLen) {left : Int} (h0 : 0 ≤ left) (h1 : left ≤ 2 ^ 20) {K : AV → Ups → List Abs.Id → Prop}
    (hK : ∀ ups rd, (Mem.mk ms loc n).upd ups = Mem.mk ms loc n → K (.i .i64 (szR left xs.length)) ups rd) : CallsVia Try.prog 91 [.ref A, .i .i64 left] ⟨ms, loc, n⟩ K := by
  rcases hA with ⟨rfl, rfl⟩ | ⟨rfl, rfl⟩ | ⟨rfl, hg⟩
  · refine CallsVia.none (szBytes_nil left h0 h1) ?_
    rintro _ _ _ ⟨rfl, rfl, rfl⟩
    refine hK _ _ ?_
    rfl
  · refine CallsVia.none (szBytes_sl0 left h0 h1) ?_
    rintro _ _ _ ⟨rfl, rfl, rfl⟩
    refine hK _ _ ?_
    rfl
  · have hg' : (Mem.mk ms loc n).get 0 j = .lv false [(0, .ints .u8 xs.length xs)] := hg
    refine CallsVia.args [(0, j)] (szBytes_ok xs.length xs left hx h0 h1) (by simp) (by simp [hg']) (by simp [renVs, renV, renAt, renIn, idx]) (by simp [argBlks, hg', renBlk, renSegs, renSg]) ?_
    rintro _ _ _ ⟨rfl, rfl, rfl⟩
    refine hK _ _ ?_
    simp only [zipUps, newUps, List.append_nil, Mem.upd, renBlk, renSegs, renSg]
    exact put_same hg'
theorem toBytes_any {j : Nat} {A : Atom} {xs : List Int} {ms : List Blk} {loc : Loc} {n : Nat} (hA : SlAtB j A xs ms) (hx : xs.length ≤ 2 ^ 20) {K : AV → Ups → List Abs.Id → Prop}
    (hK : ∀ ups rd, (Mem.mk ms loc n).upd ups = (Mem.mk ms loc n).upd [((n, 0), bk xs.length xs)] → K (.ref (.sl n 0 0 0 xs.length 1)) ups rd) : CallsVia Try.prog 38 [.ref A] ⟨ms, loc, n⟩ K := by
  rcases hA with ⟨rfl, rfl⟩ | ⟨rfl, rfl⟩ | ⟨rfl, hg⟩
  · refine CallsVia.none toBytes_nil ?_
    rintro _ _ _ ⟨rfl, rfl, rfl⟩
    refine hK _ _ ?_
    rfl
  · refine CallsVia.none toBytes_sl0 ?_
    rintro _ _ _ ⟨rfl, rfl, rfl⟩
    refine hK _ _ ?_
    rfl
  · have hg' : (Mem.mk ms loc n).get 0 j = .lv false [(0, .ints .u8 xs.length xs)] := hg
    refine CallsVia.args [(0, j)] (toBytes_ok xs.length xs false rfl hx) (by simp) (by simp [hg']) (by simp [renVs, renV, renAt, renIn, idx]) (by simp [argBlks, hg', renBlk, renSegs, renSg]) ?_
    rintro _ _ _ ⟨rfl, rfl, rfl⟩
    refine hK _ _ ?_
    simp only [zipUps, newUps, List.nil_append, List.cons_append, Mem.upd, renBlk, renSegs, renSg]
    rw [put_same hg']; rfl
theorem CallsX.allN {P : Program} {f : FuncId} {vs : List AV} {ms ns : List Blk} {loc : Loc} {n : Nat} {v : AV} (hl : ∀ b ∈ ms, b ≠ .dead) (hst : StMs ms) (hv : StVs ms vs)
    (h : ACalls P f vs ms (fun r ms' ns' => r = v ∧ ms' = ms ∧ ns' = ns)) {K : AV → Ups → List Abs.Id → Prop}
    (hK : ∀ ups rd, (∀ n', (Mem.mk ms loc n').upd ups = (Mem.mk ms loc n').upd (newUps (renOut n (allF ms)) n 0 ns)) → (∀ p ∈ ups.map (·.1), p.1 = 0 ∨ p.1 = n) → (∀ p ∈ rd, p.1 = 0 ∨ p.1 = n) → K (renV (renOut n (allF ms)) v) ups rd) : CallsX P f vs ⟨ms, loc, n⟩ K := by
  refine CallsX.args (allF ms) h srcs_nodup ?_ (hv _ fun k hk => allF_in hk) (allF_blks hst) ?_
  · intro p hp
    obtain ⟨h1, h2, h3⟩ := srcs_mem.1 hp
    obtain ⟨x, y⟩ := p
    simp only at h1 h2 h3
    subst h1
    show ms.getD y .dead ≠ .dead
    rw [List.getD_eq_getElem?_getD, List.getElem?_eq_getElem (by omega)]
    exact hl _ (List.getElem_mem _)
  · have hnew : ∀ (σ : Ren) (i : Nat) (xs : List Blk), ∀ p ∈ (newUps σ n i xs).map (·.1), p.1 = n := fun σ i xs => by
      induction xs generalizing i with
      | nil => intro p hp; simp [newUps] at hp
      | cons x xs ih =>
        intro p hp
        simp only [newUps, List.map_cons, List.mem_cons] at hp
        rcases hp with rfl | hp
        · rfl
        · exact ih _ p hp
    refine hK _ _ (fun n' => ?_) (fun p hp => ?_) fun p hp => .inl (srcs_mem.1 hp).1
    rotate_left
    · rw [List.map_append, List.mem_append] at hp
      rcases hp with hp | hp
      · rw [zip_all (hst _ fun k hk => allF_out hk)] at hp
        simp only [List.map_map, List.mem_map, List.mem_range] at hp
        obtain ⟨i, _, rfl⟩ := hp
        exact .inl rfl
      · exact .inr (hnew _ _ _ p hp)
    rw [zip_all (hst _ fun k hk => allF_out hk), Mem.upd_app]
    have := upd_all (loc := loc) (n := n') [] ms
    have e : (Mem.mk ms loc n').upd ((List.range ms.length).map fun i => ((0, 0 + i), ms.getD i .dead)) = Mem.mk ms loc n' := by simpa using this
    rw [e]
theorem CallsVia.allN {P : Program} {f : FuncId} {vs : List AV} {ms ns : List Blk} {loc : Loc} {n : Nat} {v : AV} (hl : ∀ b ∈ ms, b ≠ .dead) (hst : StMs ms) (hv : StVs ms vs)
    (h : ACalls P f vs ms (fun r ms' ns' => r = v ∧ ms' = ms ∧ ns' = ns)) {K : AV → Ups → List Abs.Id → Prop}
    (hK : ∀ ups rd, (∀ n', (Mem.mk ms loc n').upd ups = (Mem.mk ms loc n').upd (newUps (renOut n (allF ms)) n 0 ns)) → K (renV (renOut n (allF ms)) v) ups rd) : CallsVia P f vs ⟨ms, loc, n⟩ K := by
  refine CallsVia.all (R := fun r ns' => r = v ∧ ns' = ns) hl hst hv (h.mono fun r xs ns' ⟨a, b, c⟩ => ⟨⟨a, c⟩, b⟩) ?_
  rintro _ _ ups rd ⟨rfl, rfl⟩ hu
  refine hK _ _ fun n' => ?_
  rw [Mem.upd_app, hu]
theorem toIdentity_ok {j0 j1 : Nat} {A B : Atom} {xs ys : List Int} {ms : List Blk} (hst : StMs ms) (h0 : SlAtB j0 A xs ms) (h1 : SlAtB j1 B ys ms) (hx : xs.length ≤ 2 ^ 20) (hy : ys.length ≤ 2 ^ 20) :
    ACalls Try.prog 43 [idA A B] ms (fun v ms' ns => v = idA (.sl 1 0 0 0 xs.length 1) (.sl 1 1 0 0 ys.length 1) ∧ ms' = ms ∧ ns = [bk xs.length xs, bk ys.length ys]) := by
  have hfin : ∀ keep, ms.map (renBlk (renFin keep)) = ms := fun keep => hst _ fun k _ => renFin_zero k
  unfold idA
  refine acalls_of_body mix Try.func43 rfl fok43 (Nat.le_of_ble_eq_true rfl) ?_
  unfold abody
  simp only [absE, absL, absF, reduceCtorEq, ↓reduceIte, Nat.reduceEqDiff, Nat.reduceAdd, Nat.reduceLT, Nat.reduceMul, Nat.reduceSub, Nat.reduceLeDiff, Int.reduceLT, Int.reduceLE, Int.reduceEq, Option.isSome_some, implies_true, false_implies, Prod.mk.injEq, ne_eq, not_false_eq_true, not_true_eq_false, ge_iff_le, gt_iff_lt, Int.toNat_natCast, Int.reduceToNat, Int.cast_ofNat_Int, Int.natCast_nonneg, Try.f43]
  refine toBytes_any h0 hx ?_
  intro ups0 rd0 hu0
  simp only [hu0]
  simp only [absE, absL, absF, reduceCtorEq, ↓reduceIte, Nat.reduceEqDiff, Nat.reduceAdd, Nat.reduceLT, Nat.reduceMul, Nat.reduceSub, Nat.reduceLeDiff, Int.reduceLT, Int.reduceLE, Int.reduceEq, Option.isSome_some, implies_true, false_implies, Prod.mk.injEq, ne_eq, not_false_eq_true, not_true_eq_false, ge_iff_le, gt_iff_lt, Int.toNat_natCast, Int.reduceToNat, Int.cast_ofNat_Int, Int.natCast_nonneg]
  refine toBytes_any h1 hy ?_
  intro ups1 rd1 hu1
  simp only [hu1]
  simp only [absE, absL, absF, reduceCtorEq, ↓reduceIte, Nat.reduceEqDiff, Nat.reduceAdd, Nat.reduceLT, Nat.reduceMul, Nat.reduceSub, Nat.reduceLeDiff, Int.reduceLT, Int.reduceLE, Int.reduceEq, Option.isSome_some, implies_true, false_implies, Prod.mk.injEq, ne_eq, not_false_eq_true, not_true_eq_false, ge_iff_le, gt_iff_lt, Int.toNat_natCast, Int.reduceToNat, Int.cast_ofNat_Int, Int.natCast_nonneg, Try.results43]
  exact ⟨[(6, 0), (11, 0)], by simp, by simp, by simp [renV, renSegs, renSg, renAt, renFin, idx], hfin _, by simp [bk, renBlk, renSegs, renSg, Mem.get, assoc]⟩
theorem szIdentity_ok {j0 j1 : Nat} {A B : Atom} {xs ys : List Int} {ms : List Blk} (hst : StMs ms) (h0 : SlAtB j0 A xs ms) (h1 : SlAtB j1 B ys ms) (hx : xs.length ≤ maxLen) (hy : ys.length ≤ maxLen) :
    ACalls Try.prog 41 [idA A B, .i .i64 1048576] ms (fun v ms' ns => (∃ r : Int, v = .i .i64 r ∧ (0 ≤ r → xs.length ≤ 2 ^ 20 ∧ ys.length ≤ 2 ^ 20)) ∧ ms' = ms ∧ ns = []) := by
  have hfin : ∀ keep, ms.map (renBlk (renFin keep)) = ms := fun keep => hst _ fun k _ => renFin_zero k
  unfold idA
  refine acalls_of_body mix Try.func41 rfl fok41 (Nat.le_of_ble_eq_true rfl) ?_
  unfold abody
  simp only [absE, absL, absF, reduceCtorEq, ↓reduceIte, Nat.reduceEqDiff, Nat.reduceAdd, Nat.reduceLT, Nat.reduceMul, Nat.reduceSub, Nat.reduceLeDiff, Int.reduceLT, Int.reduceLE, Int.reduceEq, Option.isSome_some, implies_true, false_implies, Prod.mk.injEq, ne_eq, not_false_eq_true, not_true_eq_false, ge_iff_le, gt_iff_lt, Int.toNat_natCast, Int.reduceToNat, Int.cast_ofNat_Int, Int.natCast_nonneg, Try.f41]
  refine szBytes_any h0 hx (by decide) (by decide) ?_
  intro ups0 rd0 hu0
  simp only [hu0]
  by_cases c0 : szR 1048576 xs.length < 0
  · simp only [absE, absL, absF, reduceCtorEq, ↓reduceIte, Nat.reduceEqDiff, Nat.reduceAdd, Nat.reduceLT, Nat.reduceMul, Nat.reduceSub, Nat.reduceLeDiff, Int.reduceLT, Int.reduceLE, Int.reduceEq, Option.isSome_some, implies_true, false_implies, Prod.mk.injEq, ne_eq, not_false_eq_true, not_true_eq_false, ge_iff_le, gt_iff_lt, Int.toNat_natCast, Int.reduceToNat, Int.cast_ofNat_Int, Int.natCast_nonneg, c0, Try.results41]
    exact ⟨[], by simp, by simp, ⟨-1, by simp [renV], by omega⟩, hfin _, by simp⟩
  · have hr : xs.length ≤ 2 ^ 20 ∧ szR 1048576 xs.length ≤ 2 ^ 20 := by
      unfold szR at c0 ⊢
      split at c0
      · omega
      · rename_i hh; rw [if_neg hh]; omega
    simp only [absE, absL, absF, reduceCtorEq, ↓reduceIte, Nat.reduceEqDiff, Nat.reduceAdd, Nat.reduceLT, Nat.reduceMul, Nat.reduceSub, Nat.reduceLeDiff, Int.reduceLT, Int.reduceLE, Int.reduceEq, Option.isSome_some, implies_true, false_implies, Prod.mk.injEq, ne_eq, not_false_eq_true, not_true_eq_false, ge_iff_le, gt_iff_lt, Int.toNat_natCast, Int.reduceToNat, Int.cast_ofNat_Int, Int.natCast_nonneg, c0]
    refine szBytes_any h1 hy (by omega) hr.2 ?_
    intro ups1 rd1 hu1
    simp only [hu1]
    by_cases c1 : szR (szR 1048576 xs.length) ys.length < 0
    · simp only [absE, absL, absF, reduceCtorEq, ↓reduceIte, Nat.reduceEqDiff, Nat.reduceAdd, Nat.reduceLT, Nat.reduceMul, Nat.reduceSub, Nat.reduceLeDiff, Int.reduceLT, Int.reduceLE, Int.reduceEq, Option.isSome_some, implies_true, false_implies, Prod.mk.injEq, ne_eq, not_false_eq_true, not_true_eq_false, ge_iff_le, gt_iff_lt, Int.toNat_natCast, Int.reduceToNat, Int.cast_ofNat_Int, Int.natCast_nonneg, c1, Try.results41]
      exact ⟨[], by simp, by simp, ⟨-1, by simp [renV], by omega⟩, hfin _, by simp⟩
    · have hr2 : ys.length ≤ 2 ^ 20 := by
        unfold szR at c1 hr
        split at c1
        · omega
        · omega
      simp only [absE, absL, absF, reduceCtorEq, ↓reduceIte, Nat.reduceEqDiff, Nat.reduceAdd, Nat.reduceLT, Nat.reduceMul, Nat.reduceSub, Nat.reduceLeDiff, Int.reduceLT, Int.reduceLE, Int.reduceEq, Option.isSome_some, implies_true, false_implies, Prod.mk.injEq, ne_eq, not_false_eq_true, not_true_eq_false, ge_iff_le, gt_iff_lt, Int.toNat_natCast, Int.reduceToNat, Int.cast_ofNat_Int, Int.natCast_nonneg, c1, Try.results41]
      exact ⟨[], by simp, by simp, ⟨szR (szR 1048576 xs.length) ys.length, by simp [renV], fun _ => ⟨hr.1, hr2⟩⟩, hfin _, by simp⟩
theorem eqIdentity_ok (xs ys : List Int) (hx : xs.length < 2 ^ 40) (hy : ys.length < 2 ^ 40) :
    ACalls Try.prog 45 [idV 0 1 xs.length ys.length, idV 2 3 xs.length ys.length] [bk xs.length xs, bk ys.length ys, bk xs.length xs, bk ys.length ys] (fun v ms ns => v = .b true ∧ ms = [bk xs.length xs, bk ys.length ys, bk xs.length xs, bk ys.length ys] ∧ ns = []) := by
  unfold idV bk
  refine acalls_of_body mix Try.func45 rfl fok45 (Nat.le_of_ble_eq_true rfl) ?_
  unfold abody
  simp only [absE, absL, absF, reduceCtorEq, ↓reduceIte, Nat.reduceEqDiff, Nat.reduceAdd, Nat.reduceLT, Nat.reduceMul, Nat.reduceSub, Nat.reduceLeDiff, Int.reduceLT, Int.reduceLE, Int.reduceEq, Option.isSome_some, implies_true, false_implies, Prod.mk.injEq, ne_eq, not_false_eq_true, not_true_eq_false, ge_iff_le, gt_iff_lt, Int.toNat_natCast, Int.reduceToNat, Int.cast_ofNat_Int, Int.natCast_nonneg, Try.f45]
  refine CallsVia.args [(0, 0), (0, 2)] (eqBytes_ok xs.length xs rfl hx) (by simp) (by simp [Mem.get]) rfl rfl ?_
  rintro _ _ _ ⟨rfl, rfl, rfl⟩
  simp only [absE, absL, absF, reduceCtorEq, ↓reduceIte, Nat.reduceEqDiff, Nat.reduceAdd, Nat.reduceLT, Nat.reduceMul, Nat.reduceSub, Nat.reduceLeDiff, Int.reduceLT, Int.reduceLE, Int.reduceEq, Option.isSome_some, implies_true, false_implies, Prod.mk.injEq, ne_eq, not_false_eq_true, not_true_eq_false, ge_iff_le, gt_iff_lt, Int.toNat_natCast, Int.reduceToNat, Int.cast_ofNat_Int, Int.natCast_nonneg]
  refine CallsVia.args [(0, 1), (0, 3)] (eqBytes_ok ys.length ys rfl hy) (by simp) (by simp [Mem.get]) rfl rfl ?_
  rintro _ _ _ ⟨rfl, rfl, rfl⟩
  simp only [absE, absL, absF, reduceCtorEq, ↓reduceIte, Nat.reduceEqDiff, Nat.reduceAdd, Nat.reduceLT, Nat.reduceMul, Nat.reduceSub, Nat.reduceLeDiff, Int.reduceLT, Int.reduceLE, Int.reduceEq, Option.isSome_some, implies_true, false_implies, Prod.mk.injEq, ne_eq, not_false_eq_true, not_true_eq_false, ge_iff_le, gt_iff_lt, Int.toNat_natCast, Int.reduceToNat, Int.cast_ofNat_Int, Int.natCast_nonneg, Try.results45]
  exact ⟨[], by simp, by simp, by simp [renV, renBlk, renSegs, renSg]⟩

end Go.Proofs.Ytoccbgffekhcaaa

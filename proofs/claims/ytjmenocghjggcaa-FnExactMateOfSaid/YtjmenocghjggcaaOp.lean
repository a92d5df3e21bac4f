/-
Contracts of functions of the given program, by the abstract walk.
-/
import Derived.Test.YtjmenocghjggcaaAbsY
import Derived.Test.YtjmenocghjggcaaOn
namespace Go.Proofs.Ytjmenocghjggcaa
open Go Go.Abs
set_option linter.unusedVariables false
set_option linter.unusedSectionVars false
set_option linter.unusedSimpArgs false
set_option maxRecDepth 100000
/-! mates: the search among the transversals -/
def mB (M : Nat) (F : List Int) : Blk := .lv true [(0, .ints .u8 (M * 10) F)]
theorem cell1_ren {σ : Ren} {A : Atom} : renBlk σ (.lv true [(0, .cells 1 [A])]) = .lv true [(0, .cells 1 [renAt σ A])] := rfl
theorem cnt_ren {σ : Ren} {r : Int} : renBlk σ (.lv true [(0, .ints .i64 1 [r])]) = .lv true [(0, .ints .i64 1 [r])] := rfl
theorem mB_ren {σ : Ren} {M : Nat} {F : List Int} : renBlk σ (mB M F) = mB M F := rfl
/-- the front of a block are the places taken -/
structure PreF (M : Nat) (F : List Int) (tk : List (List Int)) : Prop where
  len : F.length = M * 10
  le : tk.length ≤ M
  fr : F.take (tk.length * 10) = tk.flatten
def tkAr (N : Nat) (t : List Int) (LS : List (List (List Int))) (A : Atom) (r : Nat) (B : Blk) : List Blk := [.lv true [(0, .cells 1 [A])], .lv true (sqS N t), byD 0 6 LS, .lv true [(0, .ints .i64 1 [(r : Int)])], .lv true [(0, .cells 1 [.fn 46 [(0, 0, 0, 0), (0, 1, 0, 0), (0, 2, 0, 0), (0, 3, 0, 0), (0, 4, 0, 0)]])], B]
def TkRes (N : Nat) (t : List Int) (LS : List (List (List Int))) (M : Nat) (F : List Int) (tk : List (List Int)) (R : TkR) (v : AV) (xs0 ns : List Blk) : Prop :=
  v = .i .i64 (R.1 : Nat) ∧ ((R.2.1 = tk ∧ xs0 = tkAr N t LS (.sl 0 5 0 0 tk.length 10) R.2.2 (mB M F) ∧ ns = []) ∨ (∃ M' F', PreF M' F' R.2.1 ∧ M' ≤ 10 ∧ xs0 = tkAr N t LS (.sl 1 0 0 0 R.2.1.length 10) R.2.2 .dead ∧ ns = [mB M' F']))
theorem PreF.get {M : Nat} {F : List Int} {tk : List (List Int)} (h : PreF M F tk) (hl : ∀ p ∈ tk, p.length = 10) {i : Nat} (hi : i < tk.length) : (F.drop (i * 10)).take 10 = tk.getD i [] := by
  have e1 := flat_get (Ls := tk) hl hi
  rw [← h.fr, List.drop_take, List.take_take, Nat.min_eq_left (by omega)] at e1
  exact e1
theorem PreF.cut {M : Nat} {F : List Int} {tk : List (List Int)} {p : List Int} (h : PreF M F (tk ++ [p])) (hl : ∀ p ∈ tk, p.length = 10) : PreF M F tk := by
  have h2 := h.le
  have h1 := h.fr
  rw [List.length_append, List.length_singleton] at h1 h2
  refine ⟨h.len, by omega, ?_⟩
  have e : F.take (tk.length * 10) = (F.take ((tk.length + 1) * 10)).take (tk.length * 10) := by rw [List.take_take, Nat.min_eq_left (by omega)]
  rw [e, h1, List.flatten_append]
  have hfl : tk.flatten.length = tk.length * 10 := flat_len hl
  rw [← hfl, List.take_left]
theorem lsg_mem {LS : List (List (List Int))} {k : Nat} (h : k < LS.length) : LS.getD k [] ∈ LS := by rw [List.getD_eq_getElem?_getD, List.getElem?_eq_getElem h]; exact List.getElem_mem h
theorem tkA_four {N : Nat} {B : Nat → List (List Int)} : ∀ {d} {tk : List (List Int)} {r : Nat}, (tkA N B d tk r).1 = 4 → (tkA N B d tk r).2.1 = tk
  | 0, tk, r, h => rfl
  | d + 1, tk, r, h => by
    have key : ∀ (P : List (List Int)) (r : Nat), (tkL N (tkA N B d) tk P r).1 = 4 → (tkL N (tkA N B d) tk P r).2.1 = tk := by
      intro P
      induction P with
      | nil => intro r _; rfl
      | cons p ps ih =>
        intro r h
        rw [tkL] at h ⊢
        split at h
        · rename_i h1; rw [if_pos h1]; exact ih _ h
        · rename_i h1
          rw [if_neg h1]
          split at h
          · simp at h
          · rename_i h2
            rw [if_neg h2]
            split at h
            · rename_i h3; rw [if_pos h3]; exact ih _ h
            · rename_i h3; exact absurd h h3
    exact key _ _ h
def tA : Bool → Nat → Atom
  | false, k => .sl 0 5 0 0 k 10
  | true, k => .sl 50 0 0 0 k 10
def tB : Bool → Nat → List Int → Blk
  | false, M, F => .lv true [(0, .ints .u8 (M * 10) F)]
  | true, _, _ => .dead
def tC : Bool → Nat → List Int → Loc
  | false, _, _ => []
  | true, M, F => [((50, 0), .lv true [(0, .ints .u8 (M * 10) F)])]
set_option maxHeartbeats 8000000 in
theorem takeM_ok (N : Nat) (t : List Int) (ht : Bytes 100 t) (hs : SqP N t) (LS : List (List (List Int))) (hLS : LS.length = N) (hLp : ∀ L ∈ LS, ∀ p ∈ L, p.length = 10) (hLl : ∀ L ∈ LS, L.length ≤ 1000000) : ∀ d, d ≤ N → ∀ (tk : List (List Int)) (r M : Nat) (F : List Int), (∀ p ∈ tk, p.length = 10) → tk.length = N - d → r ≤ 20000 → PreF M F tk → M ≤ 10 →
    ACalls Try.prog 46 [.ref (.ptr 0 0 0 0), .ref (.ptr 0 1 0 0), .ref (.ptr 0 2 0 0), .ref (.ptr 0 3 0 0), .ref (.ptr 0 4 0 0)] (tkAr N t LS (.sl 0 5 0 0 tk.length 10) r (mB M F) ++ blksF LS) (fun v xs ns => ∃ xs0, xs = xs0 ++ blksF LS ∧ xs0.length = 6 ∧ TkRes N t LS M F tk (tkA N (fun k => LS.getD k []) d tk r) v xs0 ns) := by
  have hN := hs.le
  intro d
  induction d with
  | zero =>
    intro _ tk r M F htl hl hr hF hM
    rw [Nat.sub_zero] at hl
    have gN : (tk.length : Int) = N := by omega
    unfold tkAr mB
    refine acalls_of_body mix Try.func46 rfl fok46 (Nat.le_of_ble_eq_true rfl) ?_
    unfold abody
    simp only [absE, absL, absF, reduceCtorEq, ↓reduceIte, Nat.reduceEqDiff, Nat.reduceAdd, Nat.reduceLT, Nat.reduceMul, Nat.reduceSub, Nat.reduceLeDiff, Int.reduceLT, Int.reduceLE, Int.reduceEq, Option.isSome_some, implies_true, false_implies, Prod.mk.injEq, ne_eq, not_false_eq_true, not_true_eq_false, ge_iff_le, gt_iff_lt, Int.toNat_natCast, Int.reduceToNat, Int.cast_ofNat_Int, Int.natCast_nonneg, List.getD_cons_zero, List.getD_cons_succ, List.set_cons_zero, List.set_cons_succ, List.cons_append, List.nil_append, gN, Try.f46, Try.results46]
    refine ⟨[], by simp, by simp, tkAr N t LS (.sl 0 5 0 0 tk.length 10) r (mB M F), ?_, rfl, by simp [renV, tkA], .inl ⟨rfl, rfl, rfl⟩⟩
    have hb : renBlk (renFin []) (byD 0 6 LS) = byD 0 6 LS := byD_ren fun i _ => renFin_zero _
    simp only [List.map_cons, blksF_ren, hb]
    simp [renBlk, renSegs, renSg, renAt, renFin, renCaps, idx, tkAr, mB]
  | succ d ih =>
    intro hd tk r M F htl hl hr hF hM
    have g1 : ¬ (tk.length : Int) = N := by omega
    have hkN : tk.length < N := by omega
    have hki : (tk.length : Int) < 10 := by omega
    have eS : tkA N (fun k => LS.getD k []) (d + 1) tk r = tkL N (tkA N (fun k => LS.getD k []) d) tk (LS.getD tk.length []) r := by rw [tkA, ← hl]
    rw [eS]
    have hrr := fun tk r h => tkA_r (N := N) (B := fun k => LS.getD k []) (d := d) (tk := tk) (r := r) h
    have h4 := fun tk r => tkA_four (N := N) (B := fun k => LS.getD k []) (d := d) (tk := tk) (r := r)
    replace ih := ih (by omega)
    have hLm : LS.getD tk.length [] ∈ LS := lsg_mem (by omega)
    have hLp' := hLp _ hLm
    have hLl' := hLl _ hLm
    have hcg : ∀ a b, _ := fun a b => cellsF_get (a := a) (b := b) (LS := LS) (k := tk.length) (by omega)
    have hcl : ∀ a b, (cellsF a b LS).length = N := fun a b => by rw [cellsF_len, hLS]
    generalize tkA N (fun k => LS.getD k []) d = rec at ih hrr h4 ⊢
    generalize hS : tkL N rec tk (LS.getD tk.length []) r = S
    generalize hL : LS.getD tk.length [] = L at hS hLp' hLl' hcg
    have hcell : ∀ A, (cellsF 0 6 LS).getD (0 + tk.length * 1) .top = A → (cellsF 0 6 LS ++ List.replicate (10 - LS.length) Atom.nils).getD (0 + tk.length * 1) .top = A := fun A h => by
      rw [List.getD_eq_getElem?_getD, List.getElem?_append_left (by rw [hcl]; omega), ← List.getD_eq_getElem?_getD]; exact h
    have v1 : 0 + tk.length * 1 < 10 := by omega
    rcases hcg 0 6 with ⟨hn, hc⟩ | ⟨hn, e, he, hc, hce⟩
    · subst hn
      have eR : S = (4, tk, r) := by rw [← hS]; rfl
      subst eR
      replace hcell := hcell .nils (by rw [Nat.zero_add, Nat.mul_one]; exact hc)
      unfold tkAr mB byD
      generalize hcs : cellsF 0 6 LS ++ List.replicate (10 - LS.length) Atom.nils = cs at hcell
      refine acalls_of_body mix Try.func46 rfl fok46 (Nat.le_of_ble_eq_true rfl) ?_
      unfold abody
      simp only [absE, absL, absF, reduceCtorEq, ↓reduceIte, Nat.reduceEqDiff, Nat.reduceAdd, Nat.reduceLT, Nat.reduceMul, Nat.reduceSub, Nat.reduceLeDiff, Int.reduceLT, Int.reduceLE, Int.reduceEq, Option.isSome_some, implies_true, false_implies, Prod.mk.injEq, ne_eq, not_false_eq_true, not_true_eq_false, ge_iff_le, gt_iff_lt, Int.toNat_natCast, Int.reduceToNat, Int.cast_ofNat_Int, Int.natCast_nonneg, List.getD_cons_zero, List.getD_cons_succ, List.set_cons_zero, List.set_cons_succ, List.cons_append, List.nil_append, g1, hki, v1, hcell, Try.f46]
      refine awpLoop.intro (fun _ : Nat => [(0, .ref (.ptr 0 0 0 0)), (1, .ref (.ptr 0 1 0 0)), (2, .ref (.ptr 0 2 0 0)), (3, .ref (.ptr 0 3 0 0)), (4, .ref (.ptr 0 4 0 0)), (19, .i .i64 0), (20, .i .i64 0)]) (fun _ => ⟨.lv true [(0, .cells 1 [.sl 0 5 0 0 tk.length 10])] :: .lv true (sqS N t) :: .lv true [(0, .cells 10 cs)] :: .lv true [(0, .ints .i64 1 [(r : Int)])] :: .lv true [(0, .cells 1 [.fn 46 [(0, 0, 0, 0), (0, 1, 0, 0), (0, 2, 0, 0), (0, 3, 0, 0), (0, 4, 0, 0)]])] :: .lv true [(0, .ints .u8 (M * 10) F)] :: blksF LS, [], 20⟩) (fun x => x = 0) (fun x => 1 - x) 0 rfl ⟨[], rfl, ?_, ?_⟩ ?_
      · simp [wkEnv, lk, renV, renAt, renTo]
      · have hb : renBlk (renTo []) (.lv true [(0, .cells 10 cs)]) = .lv true [(0, .cells 10 cs)] := by rw [← hcs]; exact byD_ren fun i _ => renTo_zero _
        simp only [wkMem, List.map_cons, blksF_ren, hb]
        simp [wkLoc, renBlk, renSegs, renSg, renAt, renTo, renCaps]
      · rintro _ rfl
        simp only [absE, absL, absF, reduceCtorEq, ↓reduceIte, Nat.reduceEqDiff, Nat.reduceAdd, Nat.reduceLT, Nat.reduceMul, Nat.reduceSub, Nat.reduceLeDiff, Int.reduceLT, Int.reduceLE, Int.reduceEq, Option.isSome_some, implies_true, false_implies, Prod.mk.injEq, ne_eq, not_false_eq_true, not_true_eq_false, ge_iff_le, gt_iff_lt, Int.toNat_natCast, Int.reduceToNat, Int.cast_ofNat_Int, Int.natCast_nonneg, List.getD_cons_zero, List.getD_cons_succ, List.set_cons_zero, List.set_cons_succ, List.cons_append, List.nil_append, Try.results46]
        subst hcs
        refine ⟨[], by simp, by simp, tkAr N t LS (.sl 0 5 0 0 tk.length 10) (r) (mB M F), ?_, rfl, by simp [renV], .inl ⟨rfl, rfl, rfl⟩⟩
        have hb : renBlk (renFin []) (.lv true [(0, .cells 10 (cellsF 0 6 LS ++ List.replicate (10 - LS.length) Atom.nils))]) = byD 0 6 LS := byD_ren fun i _ => renFin_zero _
        simp only [List.map_cons, blksF_ren, hb]
        simp [renBlk, renSegs, renSg, renAt, renFin, renCaps, idx, tkAr, mB]
    · replace hcell := hcell (.sl 0 (6 + e) 0 0 L.length 10) (by rw [Nat.zero_add, Nat.mul_one]; exact hc)
      have hge : ∀ x0 x1 x2 x3 x4 x5 : Blk, (x0 :: x1 :: x2 :: x3 :: x4 :: x5 :: blksF LS).getD (6 + e) .dead = .lv true [(0, .ints .u8 (L.length * 10) L.flatten)] := fun x0 x1 x2 x3 x4 x5 => by
        rw [show 6 + e = e + 1 + 1 + 1 + 1 + 1 + 1 by omega]
        simp only [List.getD_cons_succ]; exact hce
      unfold tkAr mB byD
      generalize hcs : cellsF 0 6 LS ++ List.replicate (10 - LS.length) Atom.nils = cs at hcell
      refine acalls_of_body mix Try.func46 rfl fok46 (Nat.le_of_ble_eq_true rfl) ?_
      unfold abody
      simp only [absE, absL, absF, reduceCtorEq, ↓reduceIte, Nat.reduceEqDiff, Nat.reduceAdd, Nat.reduceLT, Nat.reduceMul, Nat.reduceSub, Nat.reduceLeDiff, Int.reduceLT, Int.reduceLE, Int.reduceEq, Option.isSome_some, implies_true, false_implies, Prod.mk.injEq, ne_eq, not_false_eq_true, not_true_eq_false, ge_iff_le, gt_iff_lt, Int.toNat_natCast, Int.reduceToNat, Int.cast_ofNat_Int, Int.natCast_nonneg, List.getD_cons_zero, List.getD_cons_succ, List.set_cons_zero, List.set_cons_succ, List.cons_append, List.nil_append, g1, hki, v1, hcell, Try.f46]
      have hbT : ∀ τ : Pairs, renBlk (renTo τ) (.lv true [(0, .cells 10 cs)]) = .lv true [(0, .cells 10 cs)] := fun τ => by rw [← hcs]; exact byD_ren fun i _ => renTo_zero _
      refine awpLoop.intro (fun s : Nat × Bool × Nat × List Int × Nat => [(0, .ref (.ptr 0 0 0 0)), (1, .ref (.ptr 0 1 0 0)), (2, .ref (.ptr 0 2 0 0)), (3, .ref (.ptr 0 3 0 0)), (4, .ref (.ptr 0 4 0 0)), (6, .i .i64 tk.length), (18, .ref (.sl 0 (6 + e) 0 0 L.length 10)), (19, .i .i64 L.length), (20, .i .i64 s.1)]) (fun s => ⟨.lv true [(0, .cells 1 [tA s.2.1 tk.length])] :: .lv true (sqS N t) :: .lv true [(0, .cells 10 cs)] :: .lv true [(0, .ints .i64 1 [(s.2.2.2.2 : Int)])] :: .lv true [(0, .cells 1 [.fn 46 [(0, 0, 0, 0), (0, 1, 0, 0), (0, 2, 0, 0), (0, 3, 0, 0), (0, 4, 0, 0)]])] :: tB s.2.1 M F :: blksF LS, tC s.2.1 s.2.2.1 s.2.2.2.1, 60⟩)
        (fun s => s.1 ≤ L.length ∧ s.2.2.2.2 ≤ 20000 ∧ tkL N rec tk (L.drop s.1) s.2.2.2.2 = S ∧ PreF s.2.2.1 s.2.2.2.1 tk ∧ s.2.2.1 ≤ 10 ∧ (s.2.1 = false → s.2.2.1 = M ∧ s.2.2.2.1 = F)) (fun s => L.length - s.1) (0, false, M, F, r) ⟨by simp, hr, hS, hF, hM, fun _ => ⟨rfl, rfl⟩⟩ ⟨[], rfl, ?_, ?_⟩ ?_
      · simp [wkEnv, lk, renV, renAt, renTo]
      · simp only [wkMem, List.map_cons, blksF_ren, hbT]
        simp [wkLoc, renBlk, renSegs, renSg, renAt, renTo, renCaps, tA, tB, tC]
      · rintro ⟨i, c, M', F', q⟩ ⟨hi, hq, hT, hF', hM', hc'⟩
        simp only at hi hq hT hF' hM' hc'
        cases c
        · obtain ⟨rfl, rfl⟩ := hc' rfl
          by_cases h : (i : Int) < L.length
          · have hi2 : i < L.length := by omega
            have w := wrap_i64s (show i < 2 ^ 62 by omega)
            have hdr : L.drop i = L.getD i [] :: L.drop (i + 1) := by rw [List.drop_eq_getElem_cons hi2]; simp [hi2]
            rw [hdr] at hT
            have hm : L.getD i [] ∈ L := getD_mem hi2
            have hpl := hLp' _ hm
            have v2 : 0 + i * 10 + 10 ≤ L.length * 10 := by omega
            have v3 : 0 + i * 10 < L.length * 10 := by omega
            have kp : (L.flatten.drop (0 + i * 10)).take 10 = L.getD i [] := by rw [Nat.zero_add]; exact flat_get hLp' hi2
            generalize hp : L.getD i [] = p at hT hm hpl kp
            simp only [absE, absL, absF, reduceCtorEq, ↓reduceIte, Nat.reduceEqDiff, Nat.reduceAdd, Nat.reduceLT, Nat.reduceMul, Nat.reduceSub, Nat.reduceLeDiff, Int.reduceLT, Int.reduceLE, Int.reduceEq, Option.isSome_some, implies_true, false_implies, Prod.mk.injEq, ne_eq, not_false_eq_true, not_true_eq_false, ge_iff_le, gt_iff_lt, Int.toNat_natCast, Int.reduceToNat, Int.cast_ofNat_Int, Int.natCast_nonneg, List.getD_cons_zero, List.getD_cons_succ, List.set_cons_zero, List.set_cons_succ, List.cons_append, List.nil_append, h, v2, v3, hge, kp, tA, tB, tC]
            refine ite_m (fun h10 hy => ?_) (fun h10 => by omega) ?_
            · have e1 := flat_one hLp' h10 hi2
              rw [hp] at e1
              rw [h10, e1]
              exact ⟨by omega, rfl, by rw [if_pos rfl]; exact hy⟩
            · have hcf := containsFunc2_ok tk M' F' 48 (fun q => meetB N p q) (plS p) (sqS N t) (fun _ => rfl) (fun _ => rfl) (fun i hi => hF'.get htl hi) hF'.len hF'.le (by omega) (fun q hq => meets_ok N t p q hN hpl (htl q hq))
              refine CallsVia.args [(0, 5), (63, 0), (0, 1)] hcf (by simp) (by simp [Mem.get, assoc]) (by simp [renVs, renV, renAt, renIn, renCaps, idx]) (by simp [argBlks, Mem.get, assoc, renBlk, renSegs, renSg]) ?_
              rintro _ _ _ ⟨rfl, rfl, rfl⟩
              cases ha : tk.any (fun q => meetB N p q)
              · have wq : IntKind.i64.wrap ((q : Int) + 1) = ((q + 1 : Nat) : Int) := by have := wrap_i64s (show q < 2 ^ 62 by omega); rw [this]
                by_cases hq1 : 20000 < q + 1
                · have hq2 : (20000 : Int) < ((q + 1 : Nat) : Int) := by omega
                  have eR : S = (3, tk, q + 1) := by rw [← hT, tkL, if_neg (by rw [ha]; decide), if_pos hq1]
                  subst eR
                  simp only [absE, absL, absF, reduceCtorEq, ↓reduceIte, Nat.reduceEqDiff, Nat.reduceAdd, Nat.reduceLT, Nat.reduceMul, Nat.reduceSub, Nat.reduceLeDiff, Int.reduceLT, Int.reduceLE, Int.reduceEq, Option.isSome_some, implies_true, false_implies, Prod.mk.injEq, ne_eq, not_false_eq_true, not_true_eq_false, ge_iff_le, gt_iff_lt, Int.toNat_natCast, Int.reduceToNat, Int.cast_ofNat_Int, Int.natCast_nonneg, List.getD_cons_zero, List.getD_cons_succ, List.set_cons_zero, List.set_cons_succ, List.cons_append, List.nil_append, wq, hq2, Try.results46]
                  subst hcs
                  refine ⟨[], by simp, by simp, tkAr N t LS (.sl 0 5 0 0 tk.length 10) (q + 1) (mB M' F'), ?_, rfl, by simp [renV], .inl ⟨rfl, rfl, rfl⟩⟩
                  have hb : renBlk (renFin []) (.lv true [(0, .cells 10 (cellsF 0 6 LS ++ List.replicate (10 - LS.length) Atom.nils))]) = byD 0 6 LS := byD_ren fun i _ => renFin_zero _
                  simp only [List.map_cons, blksF_ren, hb]
                  simp [renBlk, renSegs, renSg, renAt, renFin, renCaps, idx, tkAr, mB]
                · have hq2 : ¬ (20000 : Int) < ((q + 1 : Nat) : Int) := by omega
                  have hsub : (if tk.length * 10 = M' * 10 then Sg.ints IntKind.u8 (M' * 10) F' else Sg.ints IntKind.u8 (tk.length * 10) (List.take (tk.length * 10) (List.drop 0 F'))) = Sg.ints IntKind.u8 (tk.length * 10) tk.flatten := by
                    have h1 := hF'.fr
                    split
                    · rename_i hh
                      rw [hh, List.take_of_length_le (by rw [hF'.len]; exact Nat.le_refl _)] at h1
                      rw [hh, h1]
                    · rw [List.drop_zero, h1]
                  have hle := hF'.le
                  have m1 : tk.length * 10 + 10 = (tk.length + 1) * 10 := by omega
                  have hfl : tk.flatten ++ p = (tk ++ [p]).flatten := by rw [List.flatten_append, List.flatten_singleton]
                  simp only [absE, absL, absF, reduceCtorEq, ↓reduceIte, Nat.reduceEqDiff, Nat.reduceAdd, Nat.reduceLT, Nat.reduceMul, Nat.reduceSub, Nat.reduceLeDiff, Int.reduceLT, Int.reduceLE, Int.reduceEq, Option.isSome_some, implies_true, false_implies, Prod.mk.injEq, ne_eq, not_false_eq_true, not_true_eq_false, ge_iff_le, gt_iff_lt, Int.toNat_natCast, Int.reduceToNat, Int.cast_ofNat_Int, Int.natCast_nonneg, List.getD_cons_zero, List.getD_cons_succ, List.set_cons_zero, List.set_cons_succ, List.cons_append, List.nil_append, wq, hq2]
                  rw [hsub]
                  simp only [absE, absL, absF, reduceCtorEq, ↓reduceIte, Nat.reduceEqDiff, Nat.reduceAdd, Nat.reduceLT, Nat.reduceMul, Nat.reduceSub, Nat.reduceLeDiff, Int.reduceLT, Int.reduceLE, Int.reduceEq, Option.isSome_some, implies_true, false_implies, Prod.mk.injEq, ne_eq, not_false_eq_true, not_true_eq_false, ge_iff_le, gt_iff_lt, Int.toNat_natCast, Int.reduceToNat, Int.cast_ofNat_Int, Int.natCast_nonneg, List.getD_cons_zero, List.getD_cons_succ, List.set_cons_zero, List.set_cons_succ, List.cons_append, List.nil_append, m1, hfl]
                  repeat first | refine And.intro (by decide +kernel) ?_ | refine And.intro (by omega) ?_
                  rw [tkL, if_neg (by rw [ha]; decide), if_neg hq1] at hT
                  have htl2 : ∀ x ∈ tk ++ [p], x.length = 10 := fun x hx => by
                    rcases List.mem_append.1 hx with hx | hx
                    · exact htl x hx
                    · simp at hx; rw [hx]; exact hpl
                  have hl2 : (tk ++ [p]).length = tk.length + 1 := by simp
                  have hfl2 : (tk ++ [p]).flatten.length = (tk.length + 1) * 10 := by rw [flat_len htl2, hl2]
                  have hcon := ih (tk ++ [p]) (q + 1) (tk.length + 1) (tk ++ [p]).flatten htl2 (by rw [hl2]; omega) (by omega) ⟨hfl2, by rw [hl2]; exact Nat.le_refl _, by rw [hl2]; exact List.take_of_length_le (by rw [hfl2]; exact Nat.le_refl _)⟩ (by omega)
                  have hr4 := h4 (tk ++ [p]) (q + 1)
                  have hrx := hrr (tk ++ [p]) (q + 1) (by omega)
                  rw [hl2] at hcon
                  generalize rec (tk ++ [p]) (q + 1) = R at hT hcon hr4 hrx
                  obtain ⟨rc, rt, rr⟩ := R
                  simp only at hT hr4 hrx
                  have e1 : renBlk (renIn ([(0, 0), (0, 1), (0, 2), (0, 3), (0, 4), (76, 0)] ++ srcs 0 6 (blksF LS).length)) (.lv true [(0, .cells 10 cs)]) = byD 0 6 LS := by rw [← hcs]; exact byD_ren (a := 0) (b := 6) (a' := 0) (b' := 6) fun i hi => tail_in rfl (by simp) hi
                  have e2 := byD_ren (a := 0) (b := 6) (a' := 0) (b' := 6) (LF := LS) (σ := renOut 79 ([(0, 0), (0, 1), (0, 2), (0, 3), (0, 4), (76, 0)] ++ srcs 0 6 (blksF LS).length)) fun i hi => tail_out rfl hi
                  simp only [List.getD_cons_zero, List.getD_cons_succ, List.set_cons_zero, List.set_cons_succ, List.cons_append, List.nil_append] at e1 e2
                  have h79 : ¬ (79 : Nat) = 0 := by decide
                  have h76 : ¬ (76 : Nat) = 0 := by decide
                  refine CallsVia.tail (aP := [.lv true [(0, .cells 1 [.sl 76 0 0 0 (tk.length + 1) 10])], .lv true [(0, .ints .i64 1 [(N : Int)]), (1, .ints .u8 100 t)], .lv true [(0, .cells 10 cs)], .lv true [(0, .ints .i64 1 [((q + 1 : Nat) : Int)])], .lv true [(0, .cells 1 [.fn 46 [(0, 0, 0, 0), (0, 1, 0, 0), (0, 2, 0, 0), (0, 3, 0, 0), (0, 4, 0, 0)]])], .dead]) (b := 6) (bf := 6) [(0, 0), (0, 1), (0, 2), (0, 3), (0, 4), (76, 0)] rfl rfl (by simp) (by simp) (fun σ => blksF_ren) blksF_live (by simp [Mem.get, assoc]) hcon ?_ ?_ ?_
                  · simp [renVs, renV, renAt, renIn, idx]
                  · simp only [List.map_cons, List.map_nil, Mem.get, assoc, if_true, List.getD_cons_zero, List.getD_cons_succ, List.set_cons_zero, List.set_cons_succ, List.cons_append, List.nil_append, e1]
                    simp [renBlk, renSegs, renSg, renCaps, renAt, renIn, idx, tkAr, mB]
                  · rintro r' xs0 ns ⟨rfl, ⟨hq1', rfl, rfl⟩ | ⟨M2, F2, hF2, hM2, rfl, rfl⟩⟩ hx0 ups rd hu
                    · simp only [zipUps, newUps, mB_ren, e2, tkAr, sqB_ren, cell1_ren, cnt_ren, ren_dead, renAt, renCaps, renOut, Nat.one_ne_zero, List.getElem?_cons_zero, List.getElem?_cons_succ, Mem.upd, Mem.put, if_true, if_false, h79, h76, List.getD_cons_zero, List.getD_cons_succ, List.set_cons_zero, List.set_cons_succ, List.cons_append, List.nil_append] at hu
                      simp only [byD, hcs, mB] at hu
                      simp only [hu]
                      by_cases hR4 : rc = 4
                      · subst hR4
                        have hrt : rt = tk ++ [p] := hr4 rfl
                        rw [if_pos rfl] at hT
                        have hkk : (tk.length : Int) ≤ ((tk.length + 1 : Nat) : Int) := by omega
                        have hk2 : tk.length ≤ tk.length + 1 := by omega
                        subst hrt
                        simp only [absE, absL, absF, reduceCtorEq, ↓reduceIte, Nat.reduceEqDiff, Nat.reduceAdd, Nat.reduceLT, Nat.reduceMul, Nat.reduceSub, Nat.reduceLeDiff, Int.reduceLT, Int.reduceLE, Int.reduceEq, Option.isSome_some, implies_true, false_implies, Prod.mk.injEq, ne_eq, not_false_eq_true, not_true_eq_false, ge_iff_le, gt_iff_lt, Int.toNat_natCast, Int.reduceToNat, Int.cast_ofNat_Int, Int.natCast_nonneg, List.getD_cons_zero, List.getD_cons_succ, List.set_cons_zero, List.set_cons_succ, List.cons_append, List.nil_append, h79, h76, hl2, hkk, hk2]
                        refine LoopNext.intro (i + 1, true, (tk.length + 1), (tk ++ [p]).flatten, rr) ⟨by simp only; omega, hrx.2.2.1 (by decide), hT, (PreF.cut (p := p) ⟨hfl2, by rw [hl2]; exact Nat.le_refl _, by rw [hl2]; exact List.take_of_length_le (by rw [hfl2]; exact Nat.le_refl _)⟩ htl), by first | exact hM2 | (simp only; omega), by simp⟩ (by simp only; omega) ⟨[((76,0),(50,0))], rfl, ?_, ?_⟩
                        · simp [wkEnv, lk, renV, renAt, renTo, w]
                        · simp only [wkMem, List.map_cons, blksF_ren, hbT]
                          simp [wkLoc, Mem.get, assoc, renBlk, renSegs, renSg, renAt, renTo, renCaps, tA, tB, tC]
                      · have hR5 : ¬ (rc : Int) = 4 := by omega
                        rw [if_neg hR4] at hT
                        subst hT
                        subst hq1'
                        simp only [absE, absL, absF, reduceCtorEq, ↓reduceIte, Nat.reduceEqDiff, Nat.reduceAdd, Nat.reduceLT, Nat.reduceMul, Nat.reduceSub, Nat.reduceLeDiff, Int.reduceLT, Int.reduceLE, Int.reduceEq, Option.isSome_some, implies_true, false_implies, Prod.mk.injEq, ne_eq, not_false_eq_true, not_true_eq_false, ge_iff_le, gt_iff_lt, Int.toNat_natCast, Int.reduceToNat, Int.cast_ofNat_Int, Int.natCast_nonneg, List.getD_cons_zero, List.getD_cons_succ, List.set_cons_zero, List.set_cons_succ, List.cons_append, List.nil_append, h79, h76, hR5, Try.results46]
                        subst hcs
                        refine ⟨[(76, 0)], by simp, by simp, tkAr N t LS (.sl 1 0 0 0 (tk ++ [p]).length 10) (rr) (.dead), ?_, rfl, by simp [renV], .inr ⟨tk.length + 1, (tk ++ [p]).flatten, ⟨hfl2, by rw [hl2]; exact Nat.le_refl _, by rw [hl2]; exact List.take_of_length_le (by rw [hfl2]; exact Nat.le_refl _)⟩, by omega, rfl, by simp [Mem.get, assoc, mB, renBlk, renSegs, renSg]⟩⟩
                        have hb : renBlk (renFin [(76, 0)]) (.lv true [(0, .cells 10 (cellsF 0 6 LS ++ List.replicate (10 - LS.length) Atom.nils))]) = byD 0 6 LS := byD_ren fun i _ => renFin_zero _
                        simp only [List.map_cons, blksF_ren, hb]
                        simp [renBlk, renSegs, renSg, renAt, renFin, renCaps, idx, tkAr, mB]
                    · simp only [zipUps, newUps, mB_ren, e2, tkAr, sqB_ren, cell1_ren, cnt_ren, ren_dead, renAt, renCaps, renOut, Nat.one_ne_zero, List.getElem?_cons_zero, List.getElem?_cons_succ, Mem.upd, Mem.put, if_true, if_false, h79, h76, List.getD_cons_zero, List.getD_cons_succ, List.set_cons_zero, List.set_cons_succ, List.cons_append, List.nil_append] at hu
                      simp only [byD, hcs, mB] at hu
                      simp only [hu]
                      by_cases hR4 : rc = 4
                      · subst hR4
                        have hrt : rt = tk ++ [p] := hr4 rfl
                        rw [if_pos rfl] at hT
                        have hkk : (tk.length : Int) ≤ ((tk.length + 1 : Nat) : Int) := by omega
                        have hk2 : tk.length ≤ tk.length + 1 := by omega
                        subst hrt
                        simp only [absE, absL, absF, reduceCtorEq, ↓reduceIte, Nat.reduceEqDiff, Nat.reduceAdd, Nat.reduceLT, Nat.reduceMul, Nat.reduceSub, Nat.reduceLeDiff, Int.reduceLT, Int.reduceLE, Int.reduceEq, Option.isSome_some, implies_true, false_implies, Prod.mk.injEq, ne_eq, not_false_eq_true, not_true_eq_false, ge_iff_le, gt_iff_lt, Int.toNat_natCast, Int.reduceToNat, Int.cast_ofNat_Int, Int.natCast_nonneg, List.getD_cons_zero, List.getD_cons_succ, List.set_cons_zero, List.set_cons_succ, List.cons_append, List.nil_append, h79, h76, hl2, hkk, hk2]
                        refine LoopNext.intro (i + 1, true, M2, F2, rr) ⟨by simp only; omega, hrx.2.2.1 (by decide), hT, (by have := hF2; rw [hr4 rfl] at this; exact this.cut htl), by first | exact hM2 | (simp only; omega), by simp⟩ (by simp only; omega) ⟨[((79,0),(50,0))], rfl, ?_, ?_⟩
                        · simp [wkEnv, lk, renV, renAt, renTo, w]
                        · simp only [wkMem, List.map_cons, blksF_ren, hbT]
                          simp [wkLoc, Mem.get, assoc, renBlk, renSegs, renSg, renAt, renTo, renCaps, tA, tB, tC]
                      · have hR5 : ¬ (rc : Int) = 4 := by omega
                        rw [if_neg hR4] at hT
                        subst hT
                        skip
                        simp only [absE, absL, absF, reduceCtorEq, ↓reduceIte, Nat.reduceEqDiff, Nat.reduceAdd, Nat.reduceLT, Nat.reduceMul, Nat.reduceSub, Nat.reduceLeDiff, Int.reduceLT, Int.reduceLE, Int.reduceEq, Option.isSome_some, implies_true, false_implies, Prod.mk.injEq, ne_eq, not_false_eq_true, not_true_eq_false, ge_iff_le, gt_iff_lt, Int.toNat_natCast, Int.reduceToNat, Int.cast_ofNat_Int, Int.natCast_nonneg, List.getD_cons_zero, List.getD_cons_succ, List.set_cons_zero, List.set_cons_succ, List.cons_append, List.nil_append, h79, h76, hR5, Try.results46]
                        subst hcs
                        refine ⟨[(79, 0)], by simp, by simp, tkAr N t LS (.sl 1 0 0 0 rt.length 10) (rr) (.dead), ?_, rfl, by simp [renV], .inr ⟨M2, F2, hF2, hM2, rfl, by simp [Mem.get, assoc, mB, renBlk, renSegs, renSg]⟩⟩
                        have hb : renBlk (renFin [(79, 0)]) (.lv true [(0, .cells 10 (cellsF 0 6 LS ++ List.replicate (10 - LS.length) Atom.nils))]) = byD 0 6 LS := byD_ren fun i _ => renFin_zero _
                        simp only [List.map_cons, blksF_ren, hb]
                        simp [renBlk, renSegs, renSg, renAt, renFin, renCaps, idx, tkAr, mB]
              · simp only [absE, absL, absF, reduceCtorEq, ↓reduceIte, Nat.reduceEqDiff, Nat.reduceAdd, Nat.reduceLT, Nat.reduceMul, Nat.reduceSub, Nat.reduceLeDiff, Int.reduceLT, Int.reduceLE, Int.reduceEq, Option.isSome_some, implies_true, false_implies, Prod.mk.injEq, ne_eq, not_false_eq_true, not_true_eq_false, ge_iff_le, gt_iff_lt, Int.toNat_natCast, Int.reduceToNat, Int.cast_ofNat_Int, Int.natCast_nonneg, List.getD_cons_zero, List.getD_cons_succ, List.set_cons_zero, List.set_cons_succ, List.cons_append, List.nil_append]
                rw [tkL, if_pos ha] at hT
                refine LoopNext.intro (i + 1, false, M', F', q) ⟨by simp only; omega, hq, hT, hF', hM', hc'⟩ (by simp only; omega) ⟨[], rfl, ?_, ?_⟩
                · simp [wkEnv, lk, renV, renAt, renTo, w]
                · simp only [wkMem, List.map_cons, blksF_ren, hbT]
                  simp [wkLoc, Mem.get, assoc, renBlk, renSegs, renSg, renAt, renTo, renCaps, tA, tB, tC]
          · obtain rfl : i = L.length := by omega
            have eR : S = (4, tk, q) := by rw [← hT, List.drop_length]; rfl
            subst eR
            simp only [absE, absL, absF, reduceCtorEq, ↓reduceIte, Nat.reduceEqDiff, Nat.reduceAdd, Nat.reduceLT, Nat.reduceMul, Nat.reduceSub, Nat.reduceLeDiff, Int.reduceLT, Int.reduceLE, Int.reduceEq, Option.isSome_some, implies_true, false_implies, Prod.mk.injEq, ne_eq, not_false_eq_true, not_true_eq_false, ge_iff_le, gt_iff_lt, Int.toNat_natCast, Int.reduceToNat, Int.cast_ofNat_Int, Int.natCast_nonneg, List.getD_cons_zero, List.getD_cons_succ, List.set_cons_zero, List.set_cons_succ, List.cons_append, List.nil_append, h, tA, tB, tC, Try.results46]
            subst hcs
            refine ⟨[], by simp, by simp, tkAr N t LS (.sl 0 5 0 0 tk.length 10) (q) (mB M' F'), ?_, rfl, by simp [renV], .inl ⟨rfl, rfl, rfl⟩⟩
            have hb : renBlk (renFin []) (.lv true [(0, .cells 10 (cellsF 0 6 LS ++ List.replicate (10 - LS.length) Atom.nils))]) = byD 0 6 LS := byD_ren fun i _ => renFin_zero _
            simp only [List.map_cons, blksF_ren, hb]
            simp [renBlk, renSegs, renSg, renAt, renFin, renCaps, idx, tkAr, mB]
        · skip
          by_cases h : (i : Int) < L.length
          · have hi2 : i < L.length := by omega
            have w := wrap_i64s (show i < 2 ^ 62 by omega)
            have hdr : L.drop i = L.getD i [] :: L.drop (i + 1) := by rw [List.drop_eq_getElem_cons hi2]; simp [hi2]
            rw [hdr] at hT
            have hm : L.getD i [] ∈ L := getD_mem hi2
            have hpl := hLp' _ hm
            have v2 : 0 + i * 10 + 10 ≤ L.length * 10 := by omega
            have v3 : 0 + i * 10 < L.length * 10 := by omega
            have kp : (L.flatten.drop (0 + i * 10)).take 10 = L.getD i [] := by rw [Nat.zero_add]; exact flat_get hLp' hi2
            generalize hp : L.getD i [] = p at hT hm hpl kp
            simp only [absE, absL, absF, reduceCtorEq, ↓reduceIte, Nat.reduceEqDiff, Nat.reduceAdd, Nat.reduceLT, Nat.reduceMul, Nat.reduceSub, Nat.reduceLeDiff, Int.reduceLT, Int.reduceLE, Int.reduceEq, Option.isSome_some, implies_true, false_implies, Prod.mk.injEq, ne_eq, not_false_eq_true, not_true_eq_false, ge_iff_le, gt_iff_lt, Int.toNat_natCast, Int.reduceToNat, Int.cast_ofNat_Int, Int.natCast_nonneg, List.getD_cons_zero, List.getD_cons_succ, List.set_cons_zero, List.set_cons_succ, List.cons_append, List.nil_append, h, v2, v3, hge, kp, tA, tB, tC]
            refine ite_m (fun h10 hy => ?_) (fun h10 => by omega) ?_
            · have e1 := flat_one hLp' h10 hi2
              rw [hp] at e1
              rw [h10, e1]
              exact ⟨by omega, rfl, by rw [if_pos rfl]; exact hy⟩
            · have hcf := containsFunc2_ok tk M' F' 48 (fun q => meetB N p q) (plS p) (sqS N t) (fun _ => rfl) (fun _ => rfl) (fun i hi => hF'.get htl hi) hF'.len hF'.le (by omega) (fun q hq => meets_ok N t p q hN hpl (htl q hq))
              refine CallsVia.args [(50, 0), (63, 0), (0, 1)] hcf (by simp) (by simp [Mem.get, assoc]) (by simp [renVs, renV, renAt, renIn, renCaps, idx]) (by simp [argBlks, Mem.get, assoc, renBlk, renSegs, renSg]) ?_
              rintro _ _ _ ⟨rfl, rfl, rfl⟩
              cases ha : tk.any (fun q => meetB N p q)
              · have wq : IntKind.i64.wrap ((q : Int) + 1) = ((q + 1 : Nat) : Int) := by have := wrap_i64s (show q < 2 ^ 62 by omega); rw [this]
                by_cases hq1 : 20000 < q + 1
                · have hq2 : (20000 : Int) < ((q + 1 : Nat) : Int) := by omega
                  have eR : S = (3, tk, q + 1) := by rw [← hT, tkL, if_neg (by rw [ha]; decide), if_pos hq1]
                  subst eR
                  simp only [absE, absL, absF, reduceCtorEq, ↓reduceIte, Nat.reduceEqDiff, Nat.reduceAdd, Nat.reduceLT, Nat.reduceMul, Nat.reduceSub, Nat.reduceLeDiff, Int.reduceLT, Int.reduceLE, Int.reduceEq, Option.isSome_some, implies_true, false_implies, Prod.mk.injEq, ne_eq, not_false_eq_true, not_true_eq_false, ge_iff_le, gt_iff_lt, Int.toNat_natCast, Int.reduceToNat, Int.cast_ofNat_Int, Int.natCast_nonneg, List.getD_cons_zero, List.getD_cons_succ, List.set_cons_zero, List.set_cons_succ, List.cons_append, List.nil_append, wq, hq2, Try.results46]
                  subst hcs
                  refine ⟨[(50, 0)], by simp, by simp, tkAr N t LS (.sl 1 0 0 0 tk.length 10) (q + 1) (.dead), ?_, rfl, by simp [renV], .inr ⟨M', F', hF', hM', rfl, by simp [Mem.get, assoc, mB, renBlk, renSegs, renSg]⟩⟩
                  have hb : renBlk (renFin [(50, 0)]) (.lv true [(0, .cells 10 (cellsF 0 6 LS ++ List.replicate (10 - LS.length) Atom.nils))]) = byD 0 6 LS := byD_ren fun i _ => renFin_zero _
                  simp only [List.map_cons, blksF_ren, hb]
                  simp [renBlk, renSegs, renSg, renAt, renFin, renCaps, idx, tkAr, mB]
                · have hq2 : ¬ (20000 : Int) < ((q + 1 : Nat) : Int) := by omega
                  have hsub : (if tk.length * 10 = M' * 10 then Sg.ints IntKind.u8 (M' * 10) F' else Sg.ints IntKind.u8 (tk.length * 10) (List.take (tk.length * 10) (List.drop 0 F'))) = Sg.ints IntKind.u8 (tk.length * 10) tk.flatten := by
                    have h1 := hF'.fr
                    split
                    · rename_i hh
                      rw [hh, List.take_of_length_le (by rw [hF'.len]; exact Nat.le_refl _)] at h1
                      rw [hh, h1]
                    · rw [List.drop_zero, h1]
                  have hle := hF'.le
                  have m1 : tk.length * 10 + 10 = (tk.length + 1) * 10 := by omega
                  have hfl : tk.flatten ++ p = (tk ++ [p]).flatten := by rw [List.flatten_append, List.flatten_singleton]
                  simp only [absE, absL, absF, reduceCtorEq, ↓reduceIte, Nat.reduceEqDiff, Nat.reduceAdd, Nat.reduceLT, Nat.reduceMul, Nat.reduceSub, Nat.reduceLeDiff, Int.reduceLT, Int.reduceLE, Int.reduceEq, Option.isSome_some, implies_true, false_implies, Prod.mk.injEq, ne_eq, not_false_eq_true, not_true_eq_false, ge_iff_le, gt_iff_lt, Int.toNat_natCast, Int.reduceToNat, Int.cast_ofNat_Int, Int.natCast_nonneg, List.getD_cons_zero, List.getD_cons_succ, List.set_cons_zero, List.set_cons_succ, List.cons_append, List.nil_append, wq, hq2]
                  rw [hsub]
                  simp only [absE, absL, absF, reduceCtorEq, ↓reduceIte, Nat.reduceEqDiff, Nat.reduceAdd, Nat.reduceLT, Nat.reduceMul, Nat.reduceSub, Nat.reduceLeDiff, Int.reduceLT, Int.reduceLE, Int.reduceEq, Option.isSome_some, implies_true, false_implies, Prod.mk.injEq, ne_eq, not_false_eq_true, not_true_eq_false, ge_iff_le, gt_iff_lt, Int.toNat_natCast, Int.reduceToNat, Int.cast_ofNat_Int, Int.natCast_nonneg, List.getD_cons_zero, List.getD_cons_succ, List.set_cons_zero, List.set_cons_succ, List.cons_append, List.nil_append, m1, hfl]
                  repeat first | refine And.intro (by decide +kernel) ?_ | refine And.intro (by omega) ?_
                  rw [tkL, if_neg (by rw [ha]; decide), if_neg hq1] at hT
                  have htl2 : ∀ x ∈ tk ++ [p], x.length = 10 := fun x hx => by
                    rcases List.mem_append.1 hx with hx | hx
                    · exact htl x hx
                    · simp at hx; rw [hx]; exact hpl
                  have hl2 : (tk ++ [p]).length = tk.length + 1 := by simp
                  have hfl2 : (tk ++ [p]).flatten.length = (tk.length + 1) * 10 := by rw [flat_len htl2, hl2]
                  have hcon := ih (tk ++ [p]) (q + 1) (tk.length + 1) (tk ++ [p]).flatten htl2 (by rw [hl2]; omega) (by omega) ⟨hfl2, by rw [hl2]; exact Nat.le_refl _, by rw [hl2]; exact List.take_of_length_le (by rw [hfl2]; exact Nat.le_refl _)⟩ (by omega)
                  have hr4 := h4 (tk ++ [p]) (q + 1)
                  have hrx := hrr (tk ++ [p]) (q + 1) (by omega)
                  rw [hl2] at hcon
                  generalize rec (tk ++ [p]) (q + 1) = R at hT hcon hr4 hrx
                  obtain ⟨rc, rt, rr⟩ := R
                  simp only at hT hr4 hrx
                  have e1 : renBlk (renIn ([(0, 0), (0, 1), (0, 2), (0, 3), (0, 4), (76, 0)] ++ srcs 0 6 (blksF LS).length)) (.lv true [(0, .cells 10 cs)]) = byD 0 6 LS := by rw [← hcs]; exact byD_ren (a := 0) (b := 6) (a' := 0) (b' := 6) fun i hi => tail_in rfl (by simp) hi
                  have e2 := byD_ren (a := 0) (b := 6) (a' := 0) (b' := 6) (LF := LS) (σ := renOut 79 ([(0, 0), (0, 1), (0, 2), (0, 3), (0, 4), (76, 0)] ++ srcs 0 6 (blksF LS).length)) fun i hi => tail_out rfl hi
                  simp only [List.getD_cons_zero, List.getD_cons_succ, List.set_cons_zero, List.set_cons_succ, List.cons_append, List.nil_append] at e1 e2
                  have h79 : ¬ (79 : Nat) = 0 := by decide
                  have h76 : ¬ (76 : Nat) = 0 := by decide
                  refine CallsVia.tail (aP := [.lv true [(0, .cells 1 [.sl 76 0 0 0 (tk.length + 1) 10])], .lv true [(0, .ints .i64 1 [(N : Int)]), (1, .ints .u8 100 t)], .lv true [(0, .cells 10 cs)], .lv true [(0, .ints .i64 1 [((q + 1 : Nat) : Int)])], .lv true [(0, .cells 1 [.fn 46 [(0, 0, 0, 0), (0, 1, 0, 0), (0, 2, 0, 0), (0, 3, 0, 0), (0, 4, 0, 0)]])], .dead]) (b := 6) (bf := 6) [(0, 0), (0, 1), (0, 2), (0, 3), (0, 4), (76, 0)] rfl rfl (by simp) (by simp) (fun σ => blksF_ren) blksF_live (by simp [Mem.get, assoc]) hcon ?_ ?_ ?_
                  · simp [renVs, renV, renAt, renIn, idx]
                  · simp only [List.map_cons, List.map_nil, Mem.get, assoc, if_true, List.getD_cons_zero, List.getD_cons_succ, List.set_cons_zero, List.set_cons_succ, List.cons_append, List.nil_append, e1]
                    simp [renBlk, renSegs, renSg, renCaps, renAt, renIn, idx, tkAr, mB]
                  · rintro r' xs0 ns ⟨rfl, ⟨hq1', rfl, rfl⟩ | ⟨M2, F2, hF2, hM2, rfl, rfl⟩⟩ hx0 ups rd hu
                    · simp only [zipUps, newUps, mB_ren, e2, tkAr, sqB_ren, cell1_ren, cnt_ren, ren_dead, renAt, renCaps, renOut, Nat.one_ne_zero, List.getElem?_cons_zero, List.getElem?_cons_succ, Mem.upd, Mem.put, if_true, if_false, h79, h76, List.getD_cons_zero, List.getD_cons_succ, List.set_cons_zero, List.set_cons_succ, List.cons_append, List.nil_append] at hu
                      simp only [byD, hcs, mB] at hu
                      simp only [hu]
                      by_cases hR4 : rc = 4
                      · subst hR4
                        have hrt : rt = tk ++ [p] := hr4 rfl
                        rw [if_pos rfl] at hT
                        have hkk : (tk.length : Int) ≤ ((tk.length + 1 : Nat) : Int) := by omega
                        have hk2 : tk.length ≤ tk.length + 1 := by omega
                        subst hrt
                        simp only [absE, absL, absF, reduceCtorEq, ↓reduceIte, Nat.reduceEqDiff, Nat.reduceAdd, Nat.reduceLT, Nat.reduceMul, Nat.reduceSub, Nat.reduceLeDiff, Int.reduceLT, Int.reduceLE, Int.reduceEq, Option.isSome_some, implies_true, false_implies, Prod.mk.injEq, ne_eq, not_false_eq_true, not_true_eq_false, ge_iff_le, gt_iff_lt, Int.toNat_natCast, Int.reduceToNat, Int.cast_ofNat_Int, Int.natCast_nonneg, List.getD_cons_zero, List.getD_cons_succ, List.set_cons_zero, List.set_cons_succ, List.cons_append, List.nil_append, h79, h76, hl2, hkk, hk2]
                        refine LoopNext.intro (i + 1, true, (tk.length + 1), (tk ++ [p]).flatten, rr) ⟨by simp only; omega, hrx.2.2.1 (by decide), hT, (PreF.cut (p := p) ⟨hfl2, by rw [hl2]; exact Nat.le_refl _, by rw [hl2]; exact List.take_of_length_le (by rw [hfl2]; exact Nat.le_refl _)⟩ htl), by first | exact hM2 | (simp only; omega), by simp⟩ (by simp only; omega) ⟨[((76,0),(50,0))], rfl, ?_, ?_⟩
                        · simp [wkEnv, lk, renV, renAt, renTo, w]
                        · simp only [wkMem, List.map_cons, blksF_ren, hbT]
                          simp [wkLoc, Mem.get, assoc, renBlk, renSegs, renSg, renAt, renTo, renCaps, tA, tB, tC]
                      · have hR5 : ¬ (rc : Int) = 4 := by omega
                        rw [if_neg hR4] at hT
                        subst hT
                        subst hq1'
                        simp only [absE, absL, absF, reduceCtorEq, ↓reduceIte, Nat.reduceEqDiff, Nat.reduceAdd, Nat.reduceLT, Nat.reduceMul, Nat.reduceSub, Nat.reduceLeDiff, Int.reduceLT, Int.reduceLE, Int.reduceEq, Option.isSome_some, implies_true, false_implies, Prod.mk.injEq, ne_eq, not_false_eq_true, not_true_eq_false, ge_iff_le, gt_iff_lt, Int.toNat_natCast, Int.reduceToNat, Int.cast_ofNat_Int, Int.natCast_nonneg, List.getD_cons_zero, List.getD_cons_succ, List.set_cons_zero, List.set_cons_succ, List.cons_append, List.nil_append, h79, h76, hR5, Try.results46]
                        subst hcs
                        refine ⟨[(76, 0)], by simp, by simp, tkAr N t LS (.sl 1 0 0 0 (tk ++ [p]).length 10) (rr) (.dead), ?_, rfl, by simp [renV], .inr ⟨tk.length + 1, (tk ++ [p]).flatten, ⟨hfl2, by rw [hl2]; exact Nat.le_refl _, by rw [hl2]; exact List.take_of_length_le (by rw [hfl2]; exact Nat.le_refl _)⟩, by omega, rfl, by simp [Mem.get, assoc, mB, renBlk, renSegs, renSg]⟩⟩
                        have hb : renBlk (renFin [(76, 0)]) (.lv true [(0, .cells 10 (cellsF 0 6 LS ++ List.replicate (10 - LS.length) Atom.nils))]) = byD 0 6 LS := byD_ren fun i _ => renFin_zero _
                        simp only [List.map_cons, blksF_ren, hb]
                        simp [renBlk, renSegs, renSg, renAt, renFin, renCaps, idx, tkAr, mB]
                    · simp only [zipUps, newUps, mB_ren, e2, tkAr, sqB_ren, cell1_ren, cnt_ren, ren_dead, renAt, renCaps, renOut, Nat.one_ne_zero, List.getElem?_cons_zero, List.getElem?_cons_succ, Mem.upd, Mem.put, if_true, if_false, h79, h76, List.getD_cons_zero, List.getD_cons_succ, List.set_cons_zero, List.set_cons_succ, List.cons_append, List.nil_append] at hu
                      simp only [byD, hcs, mB] at hu
                      simp only [hu]
                      by_cases hR4 : rc = 4
                      · subst hR4
                        have hrt : rt = tk ++ [p] := hr4 rfl
                        rw [if_pos rfl] at hT
                        have hkk : (tk.length : Int) ≤ ((tk.length + 1 : Nat) : Int) := by omega
                        have hk2 : tk.length ≤ tk.length + 1 := by omega
                        subst hrt
                        simp only [absE, absL, absF, reduceCtorEq, ↓reduceIte, Nat.reduceEqDiff, Nat.reduceAdd, Nat.reduceLT, Nat.reduceMul, Nat.reduceSub, Nat.reduceLeDiff, Int.reduceLT, Int.reduceLE, Int.reduceEq, Option.isSome_some, implies_true, false_implies, Prod.mk.injEq, ne_eq, not_false_eq_true, not_true_eq_false, ge_iff_le, gt_iff_lt, Int.toNat_natCast, Int.reduceToNat, Int.cast_ofNat_Int, Int.natCast_nonneg, List.getD_cons_zero, List.getD_cons_succ, List.set_cons_zero, List.set_cons_succ, List.cons_append, List.nil_append, h79, h76, hl2, hkk, hk2]
                        refine LoopNext.intro (i + 1, true, M2, F2, rr) ⟨by simp only; omega, hrx.2.2.1 (by decide), hT, (by have := hF2; rw [hr4 rfl] at this; exact this.cut htl), by first | exact hM2 | (simp only; omega), by simp⟩ (by simp only; omega) ⟨[((79,0),(50,0))], rfl, ?_, ?_⟩
                        · simp [wkEnv, lk, renV, renAt, renTo, w]
                        · simp only [wkMem, List.map_cons, blksF_ren, hbT]
                          simp [wkLoc, Mem.get, assoc, renBlk, renSegs, renSg, renAt, renTo, renCaps, tA, tB, tC]
                      · have hR5 : ¬ (rc : Int) = 4 := by omega
                        rw [if_neg hR4] at hT
                        subst hT
                        skip
                        simp only [absE, absL, absF, reduceCtorEq, ↓reduceIte, Nat.reduceEqDiff, Nat.reduceAdd, Nat.reduceLT, Nat.reduceMul, Nat.reduceSub, Nat.reduceLeDiff, Int.reduceLT, Int.reduceLE, Int.reduceEq, Option.isSome_some, implies_true, false_implies, Prod.mk.injEq, ne_eq, not_false_eq_true, not_true_eq_false, ge_iff_le, gt_iff_lt, Int.toNat_natCast, Int.reduceToNat, Int.cast_ofNat_Int, Int.natCast_nonneg, List.getD_cons_zero, List.getD_cons_succ, List.set_cons_zero, List.set_cons_succ, List.cons_append, List.nil_append, h79, h76, hR5, Try.results46]
                        subst hcs
                        refine ⟨[(79, 0)], by simp, by simp, tkAr N t LS (.sl 1 0 0 0 rt.length 10) (rr) (.dead), ?_, rfl, by simp [renV], .inr ⟨M2, F2, hF2, hM2, rfl, by simp [Mem.get, assoc, mB, renBlk, renSegs, renSg]⟩⟩
                        have hb : renBlk (renFin [(79, 0)]) (.lv true [(0, .cells 10 (cellsF 0 6 LS ++ List.replicate (10 - LS.length) Atom.nils))]) = byD 0 6 LS := byD_ren fun i _ => renFin_zero _
                        simp only [List.map_cons, blksF_ren, hb]
                        simp [renBlk, renSegs, renSg, renAt, renFin, renCaps, idx, tkAr, mB]
              · simp only [absE, absL, absF, reduceCtorEq, ↓reduceIte, Nat.reduceEqDiff, Nat.reduceAdd, Nat.reduceLT, Nat.reduceMul, Nat.reduceSub, Nat.reduceLeDiff, Int.reduceLT, Int.reduceLE, Int.reduceEq, Option.isSome_some, implies_true, false_implies, Prod.mk.injEq, ne_eq, not_false_eq_true, not_true_eq_false, ge_iff_le, gt_iff_lt, Int.toNat_natCast, Int.reduceToNat, Int.cast_ofNat_Int, Int.natCast_nonneg, List.getD_cons_zero, List.getD_cons_succ, List.set_cons_zero, List.set_cons_succ, List.cons_append, List.nil_append]
                rw [tkL, if_pos ha] at hT
                refine LoopNext.intro (i + 1, true, M', F', q) ⟨by simp only; omega, hq, hT, hF', hM', hc'⟩ (by simp only; omega) ⟨[((50,0),(50,0))], rfl, ?_, ?_⟩
                · simp [wkEnv, lk, renV, renAt, renTo, w]
                · simp only [wkMem, List.map_cons, blksF_ren, hbT]
                  simp [wkLoc, Mem.get, assoc, renBlk, renSegs, renSg, renAt, renTo, renCaps, tA, tB, tC]
          · obtain rfl : i = L.length := by omega
            have eR : S = (4, tk, q) := by rw [← hT, List.drop_length]; rfl
            subst eR
            simp only [absE, absL, absF, reduceCtorEq, ↓reduceIte, Nat.reduceEqDiff, Nat.reduceAdd, Nat.reduceLT, Nat.reduceMul, Nat.reduceSub, Nat.reduceLeDiff, Int.reduceLT, Int.reduceLE, Int.reduceEq, Option.isSome_some, implies_true, false_implies, Prod.mk.injEq, ne_eq, not_false_eq_true, not_true_eq_false, ge_iff_le, gt_iff_lt, Int.toNat_natCast, Int.reduceToNat, Int.cast_ofNat_Int, Int.natCast_nonneg, List.getD_cons_zero, List.getD_cons_succ, List.set_cons_zero, List.set_cons_succ, List.cons_append, List.nil_append, h, tA, tB, tC, Try.results46]
            subst hcs
            refine ⟨[(50, 0)], by simp, by simp, tkAr N t LS (.sl 1 0 0 0 tk.length 10) (q) (.dead), ?_, rfl, by simp [renV], .inr ⟨M', F', hF', hM', rfl, by simp [Mem.get, assoc, mB, renBlk, renSegs, renSg]⟩⟩
            have hb : renBlk (renFin [(50, 0)]) (.lv true [(0, .cells 10 (cellsF 0 6 LS ++ List.replicate (10 - LS.length) Atom.nils))]) = byD 0 6 LS := byD_ren fun i _ => renFin_zero _
            simp only [List.map_cons, blksF_ren, hb]
            simp [renBlk, renSegs, renSg, renAt, renFin, renCaps, idx, tkAr, mB]

end Go.Proofs.Ytjmenocghjggcaa

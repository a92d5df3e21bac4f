/-
Contracts of functions of the given program, by the abstract walk.
-/
import Derived.Test.YtjmenocghjggcaaAbsY
import Derived.Test.YtjmenocghjggcaaWt
import Derived.Test.YtjmenocghjggcaaWm
namespace Go.Proofs.Ytjmenocghjggcaa
open Go Go.Abs
set_option linter.unusedVariables false
set_option linter.unusedSectionVars false
set_option linter.unusedSimpArgs false
set_option maxRecDepth 100000
/-! linear algebra modulo p: the solution as a call; the reference's kernel -/
theorem solve_x {args : List Blk} {loc : Loc} {n g d N : Nat} {p : Int} {I : LLs} {due : List Int} (hg : g ≠ 0) (hd : d ≠ 0) (hgd : g ≠ d) (hn : n ≠ 0) (hng : n ≠ g) (hnd : n ≠ d) (rg : Row loc g I) (hdue : assoc loc d 0 = ib due)
    (hp : PrP p) (hN : N ≤ 10) (hN1 : 1 ≤ N) (hIl : I.length = N) (hm : Mat p N I) (hdl : due.length = N) (hdr : RngP p due) {K : AV → Ups → List Abs.Id → Prop}
    (hK : ∀ ups rd loc', (∀ n', (Mem.mk args loc n').upd ups = ⟨args, loc', n'⟩) → (∀ a k, a ≠ g → a ≠ d → a ≠ n → assoc loc' a k = assoc loc a k) →
      assoc loc' n 0 = ob n 1 (sovK p N I) → (∀ j, j < (sovK p N I).length → assoc loc' n (1 + j) = ib (at_ (sovK p N I) j)) → assoc loc' n ((sovK p N I).length + 1) = ib (sovS p N (sovD p N I) due (sovD p N I).length).2 →
      K (.tup [.ref (.sl n 0 0 0 (sovK p N I).length 1), .ref (.sl n ((sovK p N I).length + 1) 0 0 N 1), .b (decide (fsP N (sovS p N (sovD p N I) due (sovD p N I).length).1 = N))]) ups rd) :
    CallsX Try.prog 36 [.i .i64 p, .ref (.sl g 0 0 0 N 1), .ref (.sl d 0 0 0 N 1)] ⟨args, loc, n⟩ K := by
  subst hIl
  have hS := l10Solve_ok I.length p I due hp hN hN1 rfl hm hdl hdr
  generalize hNN : I.length = N at hS hK hN hN1 hm hdl ⊢
  generalize sovK p N I = Q at hS hK ⊢
  generalize (sovS p N (sovD p N I) due (sovD p N I).length).2 = s at hS hK ⊢
  generalize decide (fsP N (sovS p N (sovD p N I) due (sovD p N I).length).1 = N) = ok at hS hK ⊢
  have gd : ∀ n, (Mem.mk args loc n).get d 0 = ib due := fun n => by show (if d = 0 then _ else assoc loc d 0) = _; rw [if_neg hd]; exact hdue
  have rin : ∀ j, j < I.length → renIn ((g, 0) :: (srcs g 1 I.length ++ [(d, 0)])) g (1 + j) = some (0, 1 + j) := fun j hj => by
    have e : ¬ (0 = 1 + j) := by omega
    simp only [renIn, idx, e, and_false, if_false, idx_app, idx_srcs_in hj]
    simp; omega
  have rind : renIn ((g, 0) :: (srcs g 1 I.length ++ [(d, 0)])) d 0 = some (0, 1 + I.length) := by
    have e : idx (srcs g 1 I.length) d 0 = none := by rw [idx_srcs, if_neg]; omega
    simp only [renIn, idx, hgd, false_and, if_false, idx_app, e, srcs_len]
    simp; omega
  have rin0 : renIn ((g, 0) :: (srcs g 1 I.length ++ [(d, 0)])) g 0 = some (0, 0) := by simp [renIn, idx]
  have rout : ∀ j, j < I.length → renOut n ((g, 0) :: (srcs g 1 I.length ++ [(d, 0)])) 0 (1 + j) = some (g, 1 + j) := fun j hj => by
    show ((g, 0) :: (srcs g 1 I.length ++ [(d, 0)]))[1 + j]? = _
    rw [show 1 + j = j + 1 by omega, List.getElem?_cons_succ, List.getElem?_append_left (by rw [srcs_len]; exact hj)]
    simp [srcs, hj]; omega
  have rnew : ∀ j, renOut n ((g, 0) :: (srcs g 1 I.length ++ [(d, 0)])) 1 j = some (n, j) := fun j => rfl
  refine CallsX.args ((g, 0) :: (srcs g 1 I.length ++ [(d, 0)])) hS ?_ ?_ (by rw [← hNN]; simp only [renVs, renV, renAt, rind, rin0]) ?_ ?_
  · rw [List.nodup_cons, List.nodup_append]
    refine ⟨fun h => ?_, srcs_nodup, by simp, fun a ha b hb e => ?_⟩
    · rcases List.mem_append.1 h with h | h
      · have := (srcs_mem.1 h).2.1; simp at this
      · simp at h; exact hgd h
    · subst e
      simp only [List.mem_singleton] at hb
      have := (srcs_mem.1 ha).1
      rw [hb] at this; exact hgd this.symm
  · intro q hq
    rcases List.mem_cons.1 hq with rfl | hq
    · rw [rg.get0 hg]; simp [ob]
    · rcases List.mem_append.1 hq with hq | hq
      · exact srcs_live hg rg q hq
      · simp only [List.mem_singleton] at hq; subst hq; rw [gd]; simp [ib]
  · unfold argBlks
    rw [List.map_cons, List.map_append, rg.get0 hg, get_srcs hg rg, ob_ren rin, List.map_cons, List.map_nil, gd]
    rfl
  · have hk1 : ∀ q ∈ zipUps (renOut n ((g, 0) :: (srcs g 1 I.length ++ [(d, 0)]))) ((g, 0) :: (srcs g 1 I.length ++ [(d, 0)])) (slA I due), q.1.1 = g ∨ q.1.1 = d := fun q hq => by
      rcases List.mem_cons.1 (zip_mem q hq) with e | e
      · left; rw [e]
      · rcases List.mem_append.1 e with e | e
        · exact .inl (srcs_mem.1 e).1
        · simp only [List.mem_singleton] at e; right; rw [e]
    obtain ⟨loc1, h1, h2⟩ := upd_nz (args := args) (loc := loc) fun q hq => by
      rcases hk1 q hq with e | e <;> rw [e]
      · exact hg
      · exact hd
    have er : renBlk (renOut n ((g, 0) :: (srcs g 1 I.length ++ [(d, 0)]))) (ob 1 1 Q) = ob n 1 Q := ob_ren fun i _ => rfl
    have h := hK (zipUps (renOut n ((g, 0) :: (srcs g 1 I.length ++ [(d, 0)]))) ((g, 0) :: (srcs g 1 I.length ++ [(d, 0)])) (slA I due) ++ newUps (renOut n ((g, 0) :: (srcs g 1 I.length ++ [(d, 0)]))) n 0 (ob 1 1 Q :: (inn Q ++ [ib s]))) ((g, 0) :: (srcs g 1 I.length ++ [(d, 0)]))
      (((n, Q.length + 1), ib s) :: (rbag n 1 Q ++ ((n, 0), ob n 1 Q) :: loc1)) (fun n' => by
        rw [Mem.upd_app, h1]
        simp only [newUps, newUps_app, newUps_inn, inn_len, er, Mem.upd, Mem.put, hn, if_false, Mem.upd_app, Mem.upd_bagU (show n ≠ 0 from hn), renBlk_ib]
        rw [show 0 + 1 + Q.length = Q.length + 1 by omega]) (fun a k ha hb hc => by
        rw [assoc, if_neg (fun e => hc e.1.symm), assoc_rbag_ne hc, assoc, if_neg (fun e => hc e.1.symm), h2 a k fun q hq e => by
          rcases hk1 q hq with e' | e'
          · exact ha (e.symm.trans e')
          · exact hb (e.symm.trans e')]) (by
        rw [assoc, if_neg (fun e => by have := e.2; omega), assoc_rbag_lt (by omega), assoc, if_pos ⟨rfl, rfl⟩]) (fun j hj => by
        rw [assoc, if_neg (fun e => by have := e.2; omega), assoc_rbag_in hj]) (by rw [assoc, if_pos ⟨rfl, rfl⟩])
    have ev : renV (renOut n ((g, 0) :: (srcs g 1 I.length ++ [(d, 0)]))) (.tup [.ref (.sl 1 0 0 0 Q.length 1), .ref (.sl 1 (Q.length + 1) 0 0 N 1), .b ok]) = .tup [.ref (.sl n 0 0 0 Q.length 1), .ref (.sl n (Q.length + 1) 0 0 N 1), .b ok] := rfl
    rw [ev]; exact h
theorem disj_cons' {p : Abs.Id} {r l : List Abs.Id} (h : p ∉ l) : disj (p :: r) l = disj r l := by
  simp [disj, h]
set_option maxHeartbeats 1000000 in
theorem l10Kernel_ok (N : Nat) (t : List Int) (p : Int) (a : List Int) (ht : Bytes 100 t) (hs : SqP N t) (hp : PrP p) (ha : RngP p a) (la : a.length = N) :
    ACalls Try.prog 38 [.agg (sqS N t), .i .i64 p, .ref (.sl 0 0 0 0 N 1)] [.lv true [(0, .ints .i64 N a)]]
      (fun v ms ns => v = .ref (.sl 1 0 0 0 (sovK p N (imgL N t p a N)).length 1) ∧ ms = [.lv true [(0, .ints .i64 N a)]] ∧ ns = ob 1 1 (sovK p N (imgL N t p a N)) :: inn (sovK p N (imgL N t p a N))) := by
  have hN := hs.le
  have hN1 := hs.pos
  have hp2 := hp.le
  have N8 : (N : Int) * 8 ≤ 140737488355328 := by omega
  have m1 : N * 1 = N := Nat.mul_one N
  have hT := l10Images_ok N t p a ht hs hp ha la
  have hmI := img_mat (N := N) (t := t) hp hs ha
  have hIl := imgL_len (N := N) (t := t) (p := p) (a := a) (k := N)
  generalize imgL N t p a N = I at hT hmI hIl ⊢
  refine acalls_of_body mix Try.func38 rfl fok38 (Nat.le_of_ble_eq_true rfl) ?_
  unfold abody
  simp only [absE, absL, absF, reduceCtorEq, ↓reduceIte, Nat.reduceEqDiff, Nat.reduceAdd, Nat.reduceLT, Nat.reduceMul, Nat.reduceSub, Nat.reduceLeDiff, Int.reduceLT, Int.reduceLE, Int.reduceEq, Option.isSome_some, implies_true, false_implies, Prod.mk.injEq, ne_eq, not_false_eq_true, not_true_eq_false, ge_iff_le, gt_iff_lt, Int.toNat_natCast, Int.reduceToNat, Int.cast_ofNat_Int, Int.natCast_nonneg, N8, m1, Try.f38]
  refine CallsX.args [(0, 0)] hT (by simp) (by simp [Mem.get]) (by simp [renVs, renV, renAt, renIn, idx, renSegs, renSg]) (by simp [argBlks, Mem.get, renBlk, renSegs, renSg]) ?_
  simp only [absE, absL, absF, reduceCtorEq, ↓reduceIte, Nat.reduceEqDiff, Nat.reduceAdd, Nat.reduceLT, Nat.reduceMul, Nat.reduceSub, Nat.reduceLeDiff, Int.reduceLT, Int.reduceLE, Int.reduceEq, Option.isSome_some, implies_true, false_implies, Prod.mk.injEq, ne_eq, not_false_eq_true, not_true_eq_false, ge_iff_le, gt_iff_lt, Int.toNat_natCast, Int.reduceToNat, Int.cast_ofNat_Int, Int.natCast_nonneg, newUps_inn, ob_out, Mem.upd_bagU, assoc_rbag_ne, N8, m1]
  refine And.intro (chk_m (l := [(1, false), (0, true)]) rfl (by decide +kernel)) (And.intro (by simp [chk, disj_cons, disj_bag, disj_bag', disj_nl, disj_nr]) (And.intro (by simp [chk, disj_cons, disj_bag, disj_bag', disj_nl, disj_nr]) ?_))
  refine solve_x (g := 7) (d := 10) (due := List.replicate N 0) (by decide) (by decide) (by decide) (by decide) (by decide) (by decide) (Row.cons (by decide) Row.new) (by simp [assoc, ib]) hp hN hN1 hIl hmI (by simp) (fun j => by rw [getD_rep0]; omega) ?_
  intro ups rd loc' hu hl f0 f1 f2
  refine And.intro (chk_w (l := [7, 6, 5, 4, 3, 2, 1, 0]) rfl (by decide +kernel)) ?_
  simp only [hu]
  simp only [absE, absL, absF, reduceCtorEq, ↓reduceIte, Nat.reduceEqDiff, Nat.reduceAdd, Nat.reduceLT, Nat.reduceMul, Nat.reduceSub, Nat.reduceLeDiff, Int.reduceLT, Int.reduceLE, Int.reduceEq, Option.isSome_some, implies_true, false_implies, Prod.mk.injEq, ne_eq, not_false_eq_true, not_true_eq_false, ge_iff_le, gt_iff_lt, Int.toNat_natCast, Int.reduceToNat, Int.cast_ofNat_Int, Int.natCast_nonneg, Try.results38]
  generalize sovK p N I = Q at f0 f1 ⊢
  refine ⟨(11, 0) :: srcs 11 1 Q.length, row_nodup (.inr (by decide)), row_keep (by decide) (by decide), by simp [renV, renVs, renAt, renFin, idx], by simp [renBlk, renSegs, renSg], ?_⟩
  exact row_map' (p := (11, 0)) (B := 11) (k := 1) (LL := Q) (.inr (by decide)) (by decide) (by simp only [Mem.get]; rw [if_neg (by decide)]; exact f0) fun j hj => by
    simp only [Mem.get]
    rw [if_neg (by decide)]; exact f1 j hj

end Go.Proofs.Ytjmenocghjggcaa

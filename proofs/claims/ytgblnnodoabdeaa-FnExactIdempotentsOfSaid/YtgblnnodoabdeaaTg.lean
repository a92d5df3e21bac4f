/-
Contracts of functions of the given program, by the abstract walk.
-/
import Derived.Test.YtgblnnodoabdeaaAbsY
import Derived.Test.YtgblnnodoabdeaaTf
import Derived.Test.YtgblnnodoabdeaaJj
namespace Go.Proofs.Ytgblnnodoabdeaa
open Go Go.Abs
set_option linter.unusedVariables false
set_option linter.unusedSectionVars false
set_option linter.unusedSimpArgs false
set_option maxRecDepth 100000
/-! IdempotentsOf: a call of the closure while the list lies in local blocks -/
theorem CallsVia.idm {f : FuncId} {N P i O B dg n : Nat} {t : List Int} {L : LLs} {loc : Loc} {K : AV → Ups → List Abs.Id → Prop} (hO : O ≠ 0) (hB : B ≠ 0) (hOB : O ≠ B) (hd : dg ≠ 0) (hdO : dg ≠ O) (hdB : dg ≠ B) (hn : n ≠ 0)
    (h0 : assoc loc O 0 = ob B 0 L) (hi : ∀ j, j < L.length → assoc loc B (0 + j) = ib (at_ L j)) (hdg : assoc loc dg 0 = .lv true [(0, .ints .i64 N (digL P N i))])
    (h : ACalls Try.prog f [.ref (.sl 0 0 0 0 N 1), .ref (.ptr 0 1 0 0), .ref (.ptr 0 2 0 0), .ref (.ptr 0 3 0 0)] (iMs N t P i L)
      (fun v ms ns => v = .tup [] ∧ ((idmB N t P i = true ∧ ms = iMs' N t P i L ∧ ns = [.lv true [(0, .cells (L.length + 1) (outs 0 5 L ++ [.sl 0 0 0 0 N 1]))]]) ∨ (idmB N t P i = false ∧ ms = iMs N t P i L ∧ ns = []))))
    (hK1 : idmB N t P i = true → ∀ ups rd, (∀ n', (Mem.mk [.lv true (sqS N t), .lv true [(0, .ints .i64 1 [(P : Int)])], .lv true [(0, .cells 1 [.sl O 0 0 0 L.length 1])], .dead] loc n').upd ups = ⟨[.lv true (sqS N t), .lv true [(0, .ints .i64 1 [(P : Int)])], .lv true [(0, .cells 1 [.sl n 0 0 0 (L.length + 1) 1])], .dead], ((n, 0), .lv true [(0, .cells (L.length + 1) (outs B 0 L ++ [.sl dg 0 0 0 N 1]))]) :: (rbag B 0 L ++ ((O, 0), .dead) :: ((dg, 0), .lv true [(0, .ints .i64 N (digL P N i))]) :: loc), n'⟩) → K (.tup []) ups rd)
    (hK0 : idmB N t P i = false → ∀ ups rd, (∀ n', (Mem.mk [.lv true (sqS N t), .lv true [(0, .ints .i64 1 [(P : Int)])], .lv true [(0, .cells 1 [.sl O 0 0 0 L.length 1])], .dead] loc n').upd ups = ⟨[.lv true (sqS N t), .lv true [(0, .ints .i64 1 [(P : Int)])], .lv true [(0, .cells 1 [.sl O 0 0 0 L.length 1])], .dead], rbag B 0 L ++ ((O, 0), ob B 0 L) :: ((dg, 0), .lv true [(0, .ints .i64 N (digL P N i))]) :: loc, n'⟩) → K (.tup []) ups rd) :
    CallsVia Try.prog f [.ref (.sl dg 0 0 0 N 1), .ref (.ptr 0 0 0 0), .ref (.ptr 0 1 0 0), .ref (.ptr 0 2 0 0)] ⟨[.lv true (sqS N t), .lv true [(0, .ints .i64 1 [(P : Int)])], .lv true [(0, .cells 1 [.sl O 0 0 0 L.length 1])], .dead], loc, n⟩ K := by
  have rin : ∀ j, j < L.length → renIn ((dg, 0) :: (0, 0) :: (0, 1) :: (0, 2) :: (O, 0) :: srcs B 0 L.length) B (0 + j) = some (0, 5 + j) := fun j hj => by
    have e1 : ¬ (0 = B) := fun e => hB e.symm
    simp only [renIn, idx, hdB, hOB, e1, false_and, if_false, idx_srcs_in hj]
    simp; omega
  have rout : ∀ j, j < L.length → renOut n ((dg, 0) :: (0, 0) :: (0, 1) :: (0, 2) :: (O, 0) :: srcs B 0 L.length) 0 (5 + j) = some (B, 0 + j) := fun j hj => by
    show ((dg, 0) :: (0, 0) :: (0, 1) :: (0, 2) :: (O, 0) :: srcs B 0 L.length)[5 + j]? = _
    rw [show 5 + j = j + 1 + 1 + 1 + 1 + 1 by omega, List.getElem?_cons_succ, List.getElem?_cons_succ, List.getElem?_cons_succ, List.getElem?_cons_succ, List.getElem?_cons_succ]
    simp [srcs, hj]
  have gO : ∀ a, (Mem.mk a loc n).get O 0 = ob B 0 L := fun a => by show (if O = 0 then _ else assoc loc O 0) = _; rw [if_neg hO]; exact h0
  have gd : ∀ a, (Mem.mk a loc n).get dg 0 = .lv true [(0, .ints .i64 N (digL P N i))] := fun a => by show (if dg = 0 then _ else assoc loc dg 0) = _; rw [if_neg hd]; exact hdg
  have gi : ∀ a j, j < L.length → (Mem.mk a loc n).get B (0 + j) = ib (at_ L j) := fun a j hh => by show (if B = 0 then _ else assoc loc B (0 + j)) = _; rw [if_neg hB]; exact hi j hh
  have hnd : ((dg, 0) :: (0, 0) :: (0, 1) :: (0, 2) :: (O, 0) :: srcs B 0 L.length : List Abs.Id).Nodup := by
    have hm : ∀ x y, (x, y) ∈ srcs B 0 L.length → x = B := fun x y hh => (srcs_mem.1 hh).1
    rw [List.nodup_cons, List.nodup_cons, List.nodup_cons, List.nodup_cons]
    refine ⟨?_, ?_, ?_, ?_, row_nodup (.inl hOB)⟩
    · simp [hd, hdO]; exact fun hh => hdB (hm _ _ hh)
    · simp [Ne.symm hO]; exact fun hh => hB (hm _ _ hh).symm
    · simp [Ne.symm hO]; exact fun hh => hB (hm _ _ hh).symm
    · simp [Ne.symm hO]; exact fun hh => hB (hm _ _ hh).symm
  have hnO : ¬ (0 = O) := fun e => hO e.symm
  have hn0 : ¬ (dg = 0) := hd
  have hOd : ¬ (dg = O) := hdO
  have r4 : renOut n ((dg, 0) :: (0, 0) :: (0, 1) :: (0, 2) :: (O, 0) :: srcs B 0 L.length) 0 4 = some (O, 0) := rfl
  have r0 : renOut n ((dg, 0) :: (0, 0) :: (0, 1) :: (0, 2) :: (O, 0) :: srcs B 0 L.length) 0 0 = some (dg, 0) := rfl
  have r1 : renOut n ((dg, 0) :: (0, 0) :: (0, 1) :: (0, 2) :: (O, 0) :: srcs B 0 L.length) 1 0 = some (n, 0) := rfl
  refine CallsVia.args ((dg, 0) :: (0, 0) :: (0, 1) :: (0, 2) :: (O, 0) :: srcs B 0 L.length) h hnd ?_ ?_ ?_ ?_
  · intro p hp
    rcases List.mem_cons.1 hp with rfl | hp
    · rw [gd]; simp
    rcases List.mem_cons.1 hp with rfl | hp
    · simp [Mem.get]
    rcases List.mem_cons.1 hp with rfl | hp
    · simp [Mem.get]
    rcases List.mem_cons.1 hp with rfl | hp
    · simp [Mem.get]
    rcases List.mem_cons.1 hp with rfl | hp
    · rw [gO]; simp [ob]
    · obtain ⟨h1, h2, h3⟩ := srcs_mem.1 hp
      obtain ⟨x, y⟩ := p
      simp only at h1 h2 h3
      subst h1
      rw [show y = 0 + y by omega, gi _ _ (by omega)]
      simp [ib]
  · simp [renVs, renV, renAt, renIn, idx, hn0]
  · unfold argBlks iMs
    rw [List.map_cons, List.map_cons, List.map_cons, List.map_cons, List.map_cons, gd, gO, srcs_get fun j hh => gi _ j hh, ob_ren rin]
    simp [Mem.get, renBlk, renSegs, renSg, renAt, renIn, idx, hn0, hOd, hnO]
  · rintro _ _ _ ⟨rfl, (⟨hb, rfl, rfl⟩ | ⟨hb, rfl, rfl⟩)⟩
    · simp only [renV, renVs]
      refine hK1 hb _ _ fun n' => ?_
      simp only [iMs', zipUps, newUps]
      rw [zipUps_srcs rfl]
      simp only [List.cons_append, Mem.upd, Mem.put, hd, hO, if_false, if_true, renBlk, renSegs, renSg, List.map_cons, List.map_nil, List.map_append, renAt, r0, r1, outs_ren rout, List.set_cons_zero, List.set_cons_succ]
      rw [Mem.upd_app, Mem.upd_bagU hB]
      simp only [Mem.upd, Mem.put, hn, if_false, sqS]
    · simp only [renV, renVs]
      refine hK0 hb _ _ fun n' => ?_
      simp only [iMs, zipUps, newUps]
      rw [zipUps_srcs rfl, ob_ren rout]
      simp only [List.cons_append, List.append_nil, Mem.upd, Mem.put, hd, hO, if_false, if_true, renBlk, renSegs, renSg, List.map_cons, List.map_nil, renAt, r4, List.set_cons_zero, List.set_cons_succ]
      rw [Mem.upd_bagU hB]

end Go.Proofs.Ytgblnnodoabdeaa

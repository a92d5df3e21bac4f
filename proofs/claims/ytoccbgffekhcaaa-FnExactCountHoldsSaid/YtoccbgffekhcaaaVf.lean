/-
Contracts of functions of the given program, by the abstract walk.
-/
import Derived.Test.YtoccbgffekhcaaaAbsY
import Derived.Test.YtoccbgffekhcaaaVe
import Derived.Test.YtoccbgffekhcaaaGz
import Derived.Test.YtoccbgffekhcaaaGy
namespace Go.Proofs.Ytoccbgffekhcaaa
open Go Go.Abs
set_option linter.unusedVariables false
set_option linter.unusedSectionVars false
set_option linter.unusedSimpArgs false
set_option maxRecDepth 100000
/-! an identity that a law is handed: a struct of two lists of bytes -/
section
open Go.ChangeShapes Go.WideShapes Go.RowKit
theorem ints_openC {H : Type} {enc : TypeId × Value → H} {P : Program} {W : World} {t e : TypeId} {k : IntKind} {v : Value} {d : DataW H} {ps : List MemPlace}
    {fuel : Nat} (ht : P.underlying t = some (.slice e)) (he : P.underlying e = some (.int k)) (hc : P.cellsOf e = 1)
    (hf : DataW.trod enc P W 0 (fun _ => true) true fuel t [v] = some (d, ps)) (j : Nat) :
    ∃ A ms l xs, SlArg W k j v A ms l xs ∧ (∀ x ∈ xs, (Lit.int k x).wf = true) ∧ xs.length ≤ maxLen := by
  rcases ChangeShapes.open_ints ht he hc hf with ⟨e1, _⟩ | ⟨a, len, cap, zs, e1, hb, hl, hm, hlen, _, hcell, hwf⟩
  · obtain rfl : v = .slice none 0 0 := by simpa using e1
    exact ⟨.nils, [], [], [], .inl ⟨rfl, rfl, rfl, rfl, rfl⟩, by simp, by simp⟩
  · obtain rfl : v = .slice (some a) len cap := by simpa using e1
    simp only [if_true] at hlen
    by_cases h0 : len = 0
    · subst h0
      exact ⟨.sl0, [], [], [], .inr (.inl ⟨_, _, rfl, rfl, rfl, rfl, rfl⟩), by simp, by simp⟩
    · have hc0 := hcell 0 (by omega)
      have ha0 : a.add 0 = a := by simp [Addr.add]
      rw [ha0] at hc0
      unfold World.cell? at hc0
      split at hc0
      · rename_i arr T fz hheap
        split at hc0
        · cases hc0
        · rename_i hspot
          have hsp : a.spot = none := by cases hs : a.spot <;> simp_all
          have hget : ∀ i, i < cap → arr[a.off + i]? = some (.int k (zs.getD i 0)) := by
            intro i hi
            have := hcell i (by omega)
            unfold World.cell? at this
            by_cases hi0 : i = 0
            · subst hi0; simpa using hc0
            · simp only [Addr.add, hi0, if_false, hheap] at this
              simpa using this
          have hxl : (zs.take len).length = len := by simp; omega
          have hsz : a.off + cap ≤ arr.size := by
            have := hget (cap - 1) (by omega)
            have := (Array.getElem?_eq_some_iff.1 this).1
            omega
          have hmid : (arr.toList.drop a.off).take len = (zs.take len).map (Value.int k) := by
            apply List.ext_getElem?
            intro i
            by_cases hi : i < len
            · have h1 := hget i (by omega)
              have h2 : i < zs.length := by omega
              rw [List.getElem?_take, if_pos hi, List.getElem?_drop, List.getElem?_map, List.getElem?_take, if_pos hi]
              rw [Array.getElem?_toList, h1]
              simp [h2]
            · rw [List.getElem?_eq_none (by simp; omega), List.getElem?_eq_none (by simp; omega)]
          have hblk : RoBlk W (.lv false [(0, .ints k (zs.take len).length (zs.take len))]) (a.block, a.off, arr.size) :=
            ⟨k, _, zs.take len, arr, T, fz, arr.toList.take a.off, arr.toList.drop (a.off + len), rfl, rfl, hheap, by
              rw [← hmid, ← List.drop_drop, List.append_assoc, List.take_append_drop, List.take_append_drop], by simp; omega, rfl⟩
          refine ⟨.sl 0 j 0 0 (zs.take len).length 1, [.lv false [(0, .ints k (zs.take len).length (zs.take len))]], [(a.block, a.off, arr.size)], zs.take len,
            .inr (.inr ⟨a.block, a.off, cap, arr.size, ?_, rfl, by omega, by omega, hsz, rfl, rfl, hblk, trivial⟩), fun x hx => hwf x (List.mem_of_mem_take hx), by omega⟩
          rw [hxl]
          cases a
          simp at hsp
          subst hsp
          rfl
      · cases hc0
theorem roMem_st {W : World} : ∀ {ms : List Blk} {l : List (Nat × Nat × Nat)}, RoMem W ms l → (∀ σ : Ren, ms.map (renBlk σ) = ms) ∧ ∀ b ∈ ms, b ≠ .dead
  | [], [], _ => ⟨fun _ => rfl, by simp⟩
  | m :: ms, p :: l, h => by
    obtain ⟨k, n, xs, _, _, _, _, _, rfl, _⟩ := h.1
    obtain ⟨h1, h2⟩ := roMem_st h.2
    refine ⟨fun σ => by rw [List.map_cons, h1]; rfl, fun b hb => ?_⟩
    rcases List.mem_cons.1 hb with rfl | hb
    · simp
    · exact h2 b hb
  | [], _ :: _, h => h.elim
  | _ :: _, [], h => h.elim
theorem ident_open {H : Type} {enc : TypeId × Value → H} {P : Program} {W : World} {base : Nat} {t e q : TypeId} {fs : Array Field} {v : Value} {d : DataW H} {ps : List MemPlace}
    (ht : P.underlying t = some (.struct fs)) (h0 : ∃ f, fs[0]? = some f ∧ f.offset = 0 ∧ f.type = e) (h1 : ∃ f, fs[1]? = some f ∧ f.offset = 1 ∧ f.type = e) (hC : P.cellsOf t = 2) (he : P.underlying e = some (.slice q)) (ce : P.cellsOf e = 1) (hq : P.underlying q = some (.int .u8)) (cq : P.cellsOf q = 1)
    (hv : Value.okWide P W .any base t v) (h : DataW.Trod enc P W 0 (fun _ => true) true t v d ps) :
    ∃ A B ms l xs ys, RoMem W ms l ∧ RelV (rhoL l) (idA A B) v ∧ SlAtB 0 A xs ms ∧ (∃ j, SlAtB j B ys ms) ∧ xs.length ≤ maxLen ∧ ys.length ≤ maxLen := by
  obtain ⟨cs, rfl, hsz⟩ := okWide_struct ht hv
  obtain ⟨fuel, hf⟩ := h
  obtain ⟨zs, n, _, _, hlen, hzl, hfl⟩ := DataW.trod_struct ht hf
  obtain ⟨f0, hf0, o0, t0⟩ := h0
  obtain ⟨f1, hf1, o1, t1⟩ := h1
  have g0 := hfl 0 f0 hf0
  have g1 := hfl 1 f1 hf1
  rw [t0, o0, ce] at g0
  rw [t1, o1, ce] at g1
  simp only [Value.cells] at g0 g1 hlen
  rw [hC] at hlen
  obtain ⟨c0, c1, hcs⟩ : ∃ c0 c1, cs.toList = [c0, c1] := by
    match hl : cs.toList, hlen with
    | [a, b], _ => exact ⟨a, b, rfl⟩
  rw [hcs] at g0 g1
  simp only [List.drop_zero, List.drop_succ_cons, List.take_succ_cons, List.take_zero] at g0 g1
  have hz0 : ∃ z, zs[0]? = some z := by
    cases hh : zs[0]? with
    | none => have := List.getElem?_eq_none_iff.1 hh; have := (Array.getElem?_eq_some_iff.1 hf0).1; omega
    | some z => exact ⟨z, rfl⟩
  have hz1 : ∃ z, zs[1]? = some z := by
    cases hh : zs[1]? with
    | none => have := List.getElem?_eq_none_iff.1 hh; have := (Array.getElem?_eq_some_iff.1 hf1).1; omega
    | some z => exact ⟨z, rfl⟩
  obtain ⟨⟨z0, y0⟩, hz0⟩ := hz0
  obtain ⟨⟨z1, y1⟩, hz1⟩ := hz1
  rw [hz0] at g0
  rw [hz1] at g1
  obtain ⟨A, ms, l, xs, hs, _, hm⟩ := ints_openC he hq cq g0 0
  obtain ⟨B, ms2, l2, ys, hs2, _, hm2⟩ := ints_openC he hq cq g1 ms.length
  have hll := roMem_len hs.mem
  refine ⟨A, B, ms ++ ms2, l ++ l2, xs, ys, hs.mem.app hs2.mem, ?_, ?_, ⟨ms.length, ?_⟩, hm, hm2⟩
  · have r0 : RelV (rhoL (l ++ l2)) (.ref A) c0 := hs.relV fun p hp => by rw [hp]; rfl
    have r1 : RelV (rhoL (l ++ l2)) (.ref B) c1 := hs2.relV fun p hp => by rw [hll, hp]; simp
    refine ⟨[c0, c1], by rw [← hcs], rfl, [c0], [c1], rfl, ⟨rfl, ?_⟩, rfl, [c1], [], rfl, ⟨rfl, ?_⟩, rfl⟩
    · exact ⟨c0, [], rfl, r0, rfl⟩
    · exact ⟨c1, [], rfl, r1, rfl⟩
  · rcases slArg_valJ hs with ⟨rfl, _, rfl⟩ | ⟨rfl, _, rfl⟩ | ⟨rfl, _, rfl⟩
    · exact .inl ⟨rfl, rfl⟩
    · exact .inr (.inl ⟨rfl, rfl⟩)
    · exact .inr (.inr ⟨rfl, rfl⟩)
  · rcases slArg_valJ hs2 with ⟨rfl, _, rfl⟩ | ⟨rfl, _, rfl⟩ | ⟨rfl, _, rfl⟩
    · exact .inl ⟨rfl, rfl⟩
    · exact .inr (.inl ⟨rfl, rfl⟩)
    · refine .inr (.inr ⟨rfl, ?_⟩)
      rw [List.getD_eq_getElem?_getD, List.getElem?_append_right (Nat.le_refl _), Nat.sub_self]; rfl
end

end Go.Proofs.Ytoccbgffekhcaaa

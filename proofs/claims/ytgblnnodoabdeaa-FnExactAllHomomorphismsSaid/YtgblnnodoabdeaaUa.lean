/-
Contracts of functions of the given program, by the abstract walk.
-/
import Derived.Test.YtgblnnodoabdeaaAbsY
import Derived.Test.YtgblnnodoabdeaaCc
import Derived.Lib.Bytealg
namespace Go.Proofs.Ytgblnnodoabdeaa
open Go Go.Abs
set_option linter.unusedVariables false
set_option linter.unusedSectionVars false
set_option linter.unusedSimpArgs false
set_option maxRecDepth 100000
/-! bytes.Compare of two rows of squares; tables compared -/
open Go.RowKit in
theorem run_loadB {P : Program} {w : World} : ∀ (xs : List Int) (a : Addr) (acc : ByteArray), (∀ j x, xs[j]? = some x → w.cell? (a.add j) = some (.int .u8 x)) →
    (Extern.Bytes.loadBytes a xs.length acc).run P w = .ok ⟨acc.data ++ (xs.map fun x => x.toNat.toUInt8).toArray⟩ w
  | [], a, acc, _ => by simp [Extern.Bytes.loadBytes]
  | x :: l, a, acc, h => by
    have h0 : w.cell? a = some (.int .u8 x) := by
      have := h 0 x rfl
      simpa [Addr.add] using this
    have ih := run_loadB (P := P) l (a.add 1) (acc.push x.toNat.toUInt8) (fun j y hy => by
      have := h (j + 1) y (by simpa using hy)
      have e : (a.add 1).add j = a.add (j + 1) := by
        unfold Addr.add
        by_cases hj : j = 0
        · subst hj; simp
        · simp [hj]; omega
      rw [e]; exact this)
    simp only [List.length_cons, Extern.Bytes.loadBytes, Sem.run_bind, run_load, h0, Result.andThen]
    rw [ih]
    congr 1
    apply ByteArray.ext
    simp [ByteArray.push]
def cmpR : List Int → List Int → Int
  | [], [] => 0
  | [], _ :: _ => -1
  | _ :: _, [] => 1
  | x :: a, y :: b => if x < y then -1 else if y < x then 1 else cmpR a b
def isB (x : Int) : Prop := 0 ≤ x ∧ x < 256
theorem u8_lt {x y : Int} (hx : isB x) (hy : isB y) : (x.toNat.toUInt8 < y.toNat.toUInt8) ↔ x < y := by
  unfold isB at hx hy
  rw [UInt8.lt_iff_toNat_lt]
  simp
  omega
theorem cmpR_bytes : ∀ (a b : List Int), (∀ x ∈ a, isB x) → (∀ x ∈ b, isB x) → Lib.compareBytes (a.map fun x => x.toNat.toUInt8) (b.map fun x => x.toNat.toUInt8) = cmpR a b
  | [], [], _, _ => rfl
  | [], _ :: _, _, _ => rfl
  | _ :: _, [], _, _ => rfl
  | x :: a, y :: b, ha, hb => by
    have ih := cmpR_bytes a b (fun z hz => ha z (by simp [hz])) (fun z hz => hb z (by simp [hz]))
    have e1 := u8_lt (ha x (by simp)) (hb y (by simp))
    have e2 := u8_lt (hb y (by simp)) (ha x (by simp))
    simp only [List.map_cons, Lib.compareBytes, cmpR, ih, e1, e2]
def rwL (t : List Int) (x : Nat) : List Int := (t.drop (x * 10)).take 10
theorem rwL_len {t : List Int} (h : t.length = 100) {x : Nat} (hx : x < 10) : (rwL t x).length = 10 := by unfold rwL; simp; omega
theorem rwL_get {t : List Int} (h : t.length = 100) {x j : Nat} (hx : x < 10) (hj : j < 10) : (rwL t x)[j]? = t[x * 10 + j]? := by
  unfold rwL
  rw [List.getElem?_take, if_pos hj, List.getElem?_drop]
theorem rwL_isB {t : List Int} (h : Bytes 100 t) {x : Nat} (hx : x < 10) : ∀ z ∈ rwL t x, isB z := by
  intro z hz
  obtain ⟨j, hj, rfl⟩ := List.getElem_of_mem hz
  have hj10 : j < 10 := by rw [rwL_len h.len hx] at hj; exact hj
  have := rwL_get h.len hx hj10
  rw [List.getElem?_eq_getElem hj] at this
  have h2 : x * 10 + j < t.length := by rw [h.len]; omega
  rw [List.getElem?_eq_getElem h2] at this
  rw [Option.some.inj this]
  have := h.rng (x * 10 + j)
  rw [List.getD_eq_getElem?_getD, List.getElem?_eq_getElem h2] at this
  exact this
theorem sq_cells {ρ : Rho} {w : World} {own : Nat → Prop} {get : Nat → Nat → Blk} {k : Nat} {n : Int} {t : List Int} {p : Nat × Nat × Nat} (hM : MemRel ρ own get w) (hg : get 0 k = .lv true (sqS n t)) (hp : ρ 0 k = some p) (ht : t.length = 100) {x : Nat} (hx : x < 10) :
    ∀ j v, (rwL t x)[j]? = some v → w.cell? ⟨p.1, p.2.1 + 1 + x * 10 + j, none⟩ = some (.int .u8 v) := by
  intro j v hj
  obtain ⟨p', fz, hp', hH, _, _⟩ := hM.holds 0 k true _ hg
  rw [hp] at hp'
  obtain rfl := Option.some.inj hp'
  obtain ⟨arr, T, l, _, hR, _, hc⟩ := holds_cell hH
  have hj10 : j < 10 := by
    have := (List.getElem?_eq_some_iff.1 hj).1
    rwa [rwL_len ht hx] at this
  rw [rwL_get ht hx hj10] at hj
  have hl : l = [.int .i64 n] ++ t.map (Value.int .u8) := by
    obtain ⟨_, l1, l2, e1, ⟨_, rfl⟩, _, l3, l4, e2, ⟨_, rfl⟩, e3⟩ := hR
    have e3 : l4 = [] := e3
    subst e3
    rw [e1, e2]
    simp
  have := hc (1 + x * 10 + j) (.int .u8 v) (by
    rw [hl, List.getElem?_append_right (by simp; omega)]
    simp only [List.length_cons, List.length_nil, List.getElem?_map]
    rw [show 1 + x * 10 + j - (0 + 1) = x * 10 + j by omega, hj]
    rfl)
  rw [show p.2.1 + 1 + x * 10 + j = p.2.1 + (1 + x * 10 + j) by omega]
  exact this
set_option maxHeartbeats 1000000 in
open Go.RowKit in
theorem bytesCompare_ok (n m : Int) (t s : List Int) (x : Nat) (ht : Bytes 100 t) (hs : Bytes 100 s) (hx : x < 10) :
    ACalls Try.prog 133 [.ref (.sl 0 0 1 (x * 10) 10 1), .ref (.sl 0 1 1 (x * 10) 10 1)] [.lv true (sqS n t), .lv true (sqS m s)]
      (fun v ms ns => v = .i .i64 (cmpR (rwL t x) (rwL s x)) ∧ ms = [.lv true (sqS n t), .lv true (sqS m s)] ∧ ns = []) := by
  refine ⟨⟨_, _, Try.func133, rfl, by kernel_rfl⟩, ?_⟩
  intro ρ own w vals hρ hown hM hrel
  obtain ⟨v0, l0, rfl, h0, v1, l1, rfl, h1, hl1⟩ := hrel
  have hl1 : l1 = [] := hl1
  subst hl1
  obtain ⟨p, cap, hp, hc, hv⟩ := h0
  obtain ⟨q, cap', hq, hc', hv'⟩ := h1
  have hv : v0 = .slice (some ⟨p.1, p.2.1 + 1 + x * 10, none⟩) 10 cap := by
    rcases hv with ⟨h, _⟩ | ⟨h, _⟩
    · exact h
    · cases h
  have hv' : v1 = .slice (some ⟨q.1, q.2.1 + 1 + x * 10, none⟩) 10 cap' := by
    rcases hv' with ⟨h, _⟩ | ⟨h, _⟩
    · exact h
    · cases h
  subst hv
  subst hv'
  have c0 := run_loadB (P := Try.prog) (rwL t x) ⟨p.1, p.2.1 + 1 + x * 10, none⟩ .empty (fun j v hj => by rw [addr_add]; exact sq_cells hM rfl hp ht.len hx j v hj)
  have c1 := run_loadB (P := Try.prog) (rwL s x) ⟨q.1, q.2.1 + 1 + x * 10, none⟩ .empty (fun j v hj => by rw [addr_add]; exact sq_cells hM rfl hq hs.len hx j v hj)
  rw [rwL_len ht.len hx] at c0
  rw [rwL_len hs.len hx] at c1
  have hcmp : (Extern.BytealgCompare.compare #[.slice (some ⟨p.1, p.2.1 + 1 + x * 10, none⟩) 10 cap, .slice (some ⟨q.1, q.2.1 + 1 + x * 10, none⟩) 10 cap']).run Try.prog w = .ok (.int .i64 (cmpR (rwL t x) (rwL s x))) w := by
    change Sem.run Try.prog (do pure (goInt (Extern.BytealgCompare.cmp (← Extern.Bytes.bytesOf (.slice (some ⟨p.1, p.2.1 + 1 + x * 10, none⟩) 10 cap)) (← Extern.Bytes.bytesOf (.slice (some ⟨q.1, q.2.1 + 1 + x * 10, none⟩) 10 cap'))))) w = _
    simp only [Extern.Bytes.bytesOf, Sem.run_bind, Sem.run_pure, Result.andThen, c0, c1]
    rw [Lib.cmp_eq]
    simp only [goInt]
    rw [← cmpR_bytes _ _ (rwL_isB ht hx) (rwL_isB hs hx)]
    simp
  suffices h : Calls Try.prog 133 #[.slice (some ⟨p.1, p.2.1 + 1 + x * 10, none⟩) 10 cap, .slice (some ⟨q.1, q.2.1 + 1 + x * 10, none⟩) 10 cap'] w
      fun e w' => e = .returned (.int .i64 (cmpR (rwL t x) (rwL s x))) ∧ w' = w by
    refine h.mono ?_
    rintro e w' ⟨rfl, rfl⟩
    refine ⟨_, _, _, _, ρ, rfl, ⟨rfl, rfl, rfl⟩, rfl, rfl, ?_, fun _ => rfl, fun a k ha => hρ a k (by omega), Kept.refl _ _⟩
    have e : getOut [.lv true (sqS n t), .lv true (sqS m s)] [] = getArgs [.lv true (sqS n t), .lv true (sqS m s)] := by
      funext a k
      unfold getOut getArgs
      split
      · rfl
      · simp
    rw [e]
    exact ⟨fun a k rw_ gs hg => by
      obtain ⟨p, fz, h1, h2, h3, h4⟩ := hM.holds a k rw_ gs hg
      refine ⟨p, fz, h1, h2, fun hr => ⟨(h3 hr).1, .inl (h3 hr).2⟩, fun hr ho => ?_⟩
      rcases ho with ho | ho
      · exact h4 hr ho
      · obtain ⟨arr, T, fz', h5, _⟩ := hM.there a k p h1
        have := (Array.getElem?_eq_some_iff.1 h5).1
        omega, hM.apart, hM.there, hM.rws⟩
  go_enter Try.func133, Try.ntmps133
  go_wp2
  rw [run_callFunc_extern Try.func158 (by kernel_rfl) (by kernel_rfl) (by kernel_rfl) (e := Extern.BytealgCompare.compare) (by kernel_rfl), hcmp]
  simp only [Result.andThen]
  rw [Oper.upon_value]
  go_wp2
  go_ret
  exact ⟨rfl, rfl⟩

end Go.Proofs.Ytgblnnodoabdeaa
